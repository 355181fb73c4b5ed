-- Printed by hp.py, a program of this session: a machine's side of laws, out of the translation; Lean checks it.
import Derived.Shelf.SlSortCmp.NoneTotal
import Derived.Test.YtcpnmiempaofdaaGreatGx0
namespace Go.Proofs.YtcpnmiempaofdaaGreat.G
open Go.RowKit Go.Proofs.YtcpnmiempaofdaaGreatW.PrintWords Go.Proofs.YtcpnmiempaofdaaGreatW.PrintLast Go.Proofs.YtcpnmiempaofdaaGreatW.PrintMore
attribute [local go_sem] max2_int min2_int max_two min_two max_three min_three max_four min_four   -- for this text's walks alone
set_option linter.unusedVariables false
set_option linter.unusedSimpArgs false

/-! ### cmp_Or_int: function 64 -/
def orI (x y : Int) : Int := if x ≠ 0 then x else y
set_option maxHeartbeats 4000000 in
set_option maxRecDepth 100000 in
theorem orI_calls (g c : Nat) (x y : Int) (w : World) (h0 : w.cell? ⟨g, 0, none⟩ = some (.int .i64 x)) (h1 : w.cell? ⟨g, 1, none⟩ = some (.int .i64 y)) :
  Calls Tryz.prog 64 #[.slice (some ⟨g, 0, none⟩) 2 c] w fun e w' => e = .returned (.int .i64 (orI x y)) ∧ w' = w := by
 go_enter Tryz.func64, Tryz.ntmps64
 go_wp2
 go_loopg [8] 2 (fun gg v8 wr => wr = w ∧ ((v8 = .int .i64 0 ∧ 2 ≤ gg) ∨ (v8 = .int .i64 1 ∧ x = 0 ∧ 1 ≤ gg) ∨ (v8 = .int .i64 2 ∧ x = 0 ∧ y = 0)))
 case atStart => exact ⟨rfl, .inl ⟨rfl, Nat.le_refl _⟩⟩
 case round =>
  obtain ⟨rfl, h⟩ := hrel
  rcases h with ⟨rfl, hg⟩ | ⟨rfl, hx, hg⟩ | ⟨rfl, hx, hy⟩
  ·by_cases hx : x = 0
   ·have hb : (x != 0) = false := by simp [hx]
    have HX := Aside0.mk hx
    clear hx
    go_wp2
    go_roundg 1
    case measure => omega
    case rel => exact ⟨rfl, .inr (.inl ⟨rfl, HX.out, Nat.le_refl _⟩)⟩
   ·have hb : (x != 0) = true := by simp [hx]
    have HX := Aside0.mk hx
    clear hx
    go_wp2
    go_ret
    exact ⟨by rw [show orI x y = x from if_pos HX.out]; rfl, rfl⟩
  ·have HX := Aside0.mk hx
   clear hx
   by_cases hy : y = 0
   ·have hb : (y != 0) = false := by simp [hy]
    have HY := Aside0.mk hy
    clear hy
    go_wp2
    go_roundg 0
    case measure => omega
    case rel => exact ⟨rfl, .inr (.inr ⟨rfl, HX.out, HY.out⟩)⟩
   ·have hb : (y != 0) = true := by simp [hy]
    clear hy
    go_wp2
    go_ret
    exact ⟨by rw [show orI x y = y from if_neg (fun h => h HX.out)]; rfl, rfl⟩
  ·have HX := Aside0.mk hx
   have HY := Aside0.mk hy
   clear hx hy
   go_wp2
   go_ret
   exact ⟨by rw [show orI x y = y from if_neg (fun h => h HX.out), HY.out]; rfl, rfl⟩


/-! ### cmp_Compare_int: function 65 -/
set_option maxHeartbeats 1000000 in
theorem cmpI_calls (x y : Int) (w : World) : Calls Tryz.prog 65 #[.int .i64 x, .int .i64 y] w fun e w' => e = .returned (.int .i64 (Lib.compareInt x y)) ∧ w' = w := by
 go_enter Tryz.func65, Tryz.ntmps65
 go_wp2
 all_goals (go_ret; refine ⟨?_, rfl⟩; unfold Lib.compareInt; (repeat' split) <;> first | rfl | (exfalso; omega))


/-! ### impl_PossibleHints_1: function 63 -/
def lexI (p o q r : Int) : Int := orI (Lib.compareInt p q) (Lib.compareInt o r)
set_option maxHeartbeats 4000000 in
set_option maxRecDepth 100000 in
theorem ph1_calls (g1 g2 c1 c2 : Nat) (p o q r : Int) (w : World) (h0 : w.cell? ⟨g1, 0, none⟩ = some (.int .i64 p)) (h1 : w.cell? ⟨g1, 1, none⟩ = some (.int .i64 o)) (h2 : w.cell? ⟨g2, 0, none⟩ = some (.int .i64 q)) (h3 : w.cell? ⟨g2, 1, none⟩ = some (.int .i64 r)) :
  Calls Tryz.prog 63 #[.slice (some ⟨g1, 0, none⟩) 2 c1, .slice (some ⟨g2, 0, none⟩) 2 c2] w fun e w' => e = .returned (.int .i64 (lexI p o q r)) ∧ ∃ n os, w' = Sort.grow (w.drewN n) os := by
 go_enter Tryz.func63, Tryz.ntmps63
 go_wp2
 go_region_held3 (fun w' => w'.cell? ⟨g1, 0, none⟩ = some (.int .i64 p) ∧ w'.cell? ⟨g1, 1, none⟩ = some (.int .i64 o) ∧ w'.cell? ⟨g2, 0, none⟩ = some (.int .i64 q) ∧ w'.cell? ⟨g2, 1, none⟩ = some (.int .i64 r)) (first | go_keep)
  (first | (go_at_call 65; refine (cmpI_calls _ _ _).mono ?_; rintro e w' ⟨rfl, rfl⟩) | (go_at_call 64; refine (orI_calls _ _ (Lib.compareInt p q) (Lib.compareInt o r) _ ?ha ?hb).mono ?_; (case ha => simp); (case hb => simp); rintro e w' ⟨rfl, rfl⟩))
 go_wp2
 go_ret
 exact ⟨rfl, 1, #[.cells #[.int .i64 (Lib.compareInt p q), .int .i64 (Lib.compareInt o r)] 3 (0, 0)], by rw [← Sort.alloc_eq_grow]; rfl⟩


/-! ### slices_SortFunc_int_int: function 62 -/
def sortL_ren : Go.Shelf.Ren := ⟨fun | 6 => 62 | 15 => 105 | 14 => 104 | 28 => 127 | 29 => 128 | 20 => 119 | 21 => 120 | 22 => 121 | 23 => 122 | 24 => 123 | 25 => 124 | 26 => 125 | 27 => 126 | 46 => 130 | 47 => 131 | 48 => 132 | 49 => 133 | 50 => 134 | 57 => 135 | n => n, fun | 22 => 44 | 24 => 55 | 25 => 97 | 3 => 3 | 39 => 127 | 0 => 0 | 53 => 141 | 55 => 74 | 4 => 4 | 46 => 135 | 45 => 134 | 50 => 31 | 5 => 5 | 9 => 9 | 66 => 143 | 70 => 147 | 76 => 149 | 77 => 84 | n => n, fun | n => n⟩
theorem sortL : Go.Proofs.SlLaysF.n6 Tryz.prog sortL_ren := {
 mixed := by kernel_rfl,
 f6 := ⟨Tryz.f62.name, by decide, Tryz.func62.trans (congrArg some (by kernel_rfl))⟩,
 f14 := ⟨Tryz.f104.name, by decide, Tryz.func104.trans (congrArg some (by kernel_rfl))⟩,
 f15 := Tryz.func105.trans (congrArg some (by kernel_rfl)),
 f20 := ⟨Tryz.f119.name, by decide, Tryz.func119.trans (congrArg some (by kernel_rfl))⟩,
 f21 := ⟨Tryz.f120.name, by decide, Tryz.func120.trans (congrArg some (by kernel_rfl))⟩,
 f22 := ⟨Tryz.f121.name, by decide, Tryz.func121.trans (congrArg some (by kernel_rfl))⟩,
 f23 := ⟨Tryz.f122.name, by decide, Tryz.func122.trans (congrArg some (by kernel_rfl))⟩,
 f24 := ⟨Tryz.f123.name, by decide, Tryz.func123.trans (congrArg some (by kernel_rfl))⟩,
 f25 := ⟨Tryz.f124.name, by decide, Tryz.func124.trans (congrArg some (by kernel_rfl))⟩,
 f26 := ⟨Tryz.f125.name, by decide, Tryz.func125.trans (congrArg some (by kernel_rfl))⟩,
 f27 := ⟨Tryz.f126.name, by decide, Tryz.func126.trans (congrArg some (by kernel_rfl))⟩,
 f28 := Tryz.func127.trans (congrArg some (by kernel_rfl)),
 f29 := Tryz.func128.trans (congrArg some (by kernel_rfl)),
 f46 := ⟨Tryz.f130.name, by decide, Tryz.func130.trans (congrArg some (by kernel_rfl))⟩,
 f47 := Tryz.func131.trans (congrArg some (by kernel_rfl)),
 f48 := Tryz.func132.trans (congrArg some (by kernel_rfl)),
 f49 := ⟨Tryz.f133.name, by decide, Tryz.func133.trans (congrArg some (by kernel_rfl))⟩,
 f50 := ⟨Tryz.f134.name, by decide, Tryz.func134.trans (congrArg some (by kernel_rfl))⟩,
 f57 := ⟨Tryz.f135.name, by decide, Tryz.func135.trans (congrArg some (by kernel_rfl))⟩,
 t0 := Tryz.underlying0,
 a0 := Tryz.isAgg0,
 z0 := Tryz.sizeOf0,
 v0 := Tryz.zeroValue0,
 t3 := Tryz.underlying3,
 a3 := Tryz.isAgg3,
 z3 := Tryz.sizeOf3,
 v3 := Tryz.zeroValue3,
 t4 := Tryz.underlying4,
 a4 := Tryz.isAgg4,
 z4 := Tryz.sizeOf4,
 v4 := Tryz.zeroValue4,
 t5 := Tryz.underlying5,
 a5 := Tryz.isAgg5,
 z5 := Tryz.sizeOf5,
 v5 := Tryz.zeroValue5,
 t9 := Tryz.underlying9,
 a9 := Tryz.isAgg9,
 z9 := Tryz.sizeOf9,
 v9 := Tryz.zeroValue9,
 t22 := Tryz.underlying44,
 a22 := Tryz.isAgg44,
 z22 := Tryz.sizeOf44,
 v22 := Tryz.zeroValue44,
 a24 := Tryz.isAgg55,
 z24 := Tryz.sizeOf55,
 t25 := Tryz.underlying97,
 a25 := Tryz.isAgg97,
 z25 := Tryz.sizeOf97,
 v25 := Tryz.zeroValue97,
 t39 := Tryz.underlying127,
 a39 := Tryz.isAgg127,
 z39 := Tryz.sizeOf127,
 v39 := Tryz.zeroValue127,
 t45 := Tryz.underlying134,
 a45 := Tryz.isAgg134,
 z45 := Tryz.sizeOf134,
 v45 := Tryz.zeroValue134,
 t46 := Tryz.underlying135,
 a46 := Tryz.isAgg135,
 z46 := Tryz.sizeOf135,
 v46 := Tryz.zeroValue135,
 t50 := Tryz.underlying31,
 a50 := Tryz.isAgg31,
 z50 := Tryz.sizeOf31,
 v50 := Tryz.zeroValue31,
 t53 := Tryz.underlying141,
 a53 := Tryz.isAgg141,
 z53 := Tryz.sizeOf141,
 v53 := Tryz.zeroValue141,
 t55 := Tryz.underlying74,
 a55 := Tryz.isAgg74,
 z55 := Tryz.sizeOf74,
 v55 := Tryz.zeroValue74,
 t66 := Tryz.underlying143,
 a66 := Tryz.isAgg143,
 z66 := Tryz.sizeOf143,
 v66 := Tryz.zeroValue143,
 t70 := Tryz.underlying147,
 a70 := Tryz.isAgg147,
 z70 := Tryz.sizeOf147,
 v70 := Tryz.zeroValue147,
 t76 := Tryz.underlying149,
 a76 := Tryz.isAgg149,
 z76 := Tryz.sizeOf149,
 v76 := Tryz.zeroValue149,
 t77 := Tryz.underlying84,
 a77 := Tryz.isAgg84,
 z77 := Tryz.sizeOf84,
 v77 := Tryz.zeroValue84 }
theorem cI_lt {x y : Int} (h : x < y) : Lib.compareInt x y = -1 := if_pos h
theorem cI_gt {x y : Int} (h : y < x) : Lib.compareInt x y = 1 := (if_neg (by omega)).trans (if_pos h)
theorem cI_eq (x : Int) : Lib.compareInt x x = 0 := (if_neg (Int.lt_irrefl x)).trans (if_neg (Int.lt_irrefl x))
theorem lexI_lt {p o q r : Int} (h : p < q ∨ p = q ∧ o < r) : lexI p o q r = -1 := by
 unfold lexI
 rcases h with h | ⟨rfl, h⟩
 ·rw [cI_lt h]; rfl
 ·rw [cI_eq, cI_lt h]; rfl
theorem lexI_gt {p o q r : Int} (h : q < p ∨ q = p ∧ r < o) : lexI p o q r = 1 := by
 unfold lexI
 rcases h with h | ⟨rfl, h⟩
 ·rw [cI_gt h]; rfl
 ·rw [cI_eq, cI_gt h]; rfl
theorem lexI_eq (p o : Int) : lexI p o p o = 0 := by
 unfold lexI
 rw [cI_eq, cI_eq]; rfl
set_option maxHeartbeats 4000000 in
theorem sortRR_calls (g n c : Nat) (rows : List (List Int)) (W : World) (base : Nat) (ok : Nat → Prop) (hS : Kd.S (Kd.slice 3 (Kd.int .i64)) 55 W base ok (.slice (some ⟨g, 0, none⟩) n c) rows) (P O : Nat → Int)
  (hrow : ∀ (i : Nat) (h : i < rows.length), rows[i] = [P i, O i]) (hasc : ∀ i j : Nat, i < j → j < n → P i < P j ∨ P i = P j ∧ O i < O j) (h0 : 0 < n) (hn : n ≤ 1000) :
  Calls Tryz.prog 62 #[.slice (some ⟨g, 0, none⟩) n c, .func (.func 63) #[] #[]] W fun e w' => e = .returned (.tuple #[]) ∧ Below W.heap.size W w' := by
 have hlen : n = rows.length := (Kd.S_reads' hS).1
 have hgl : g < W.heap.size := Kd.S_lt hS g rfl
 have hh : ∀ i : Fin n, ∃ v : Value, ∃ b cp, v = .slice (some ⟨b, 0, none⟩) 2 cp ∧ b ≠ g ∧ b < W.heap.size ∧ W.cell? ⟨g, i.val, none⟩ = some v ∧ W.cell? ⟨b, 0, none⟩ = some (.int .i64 (P i.val)) ∧ W.cell? ⟨b, 1, none⟩ = some (.int .i64 (O i.val)) := by
  intro i
  have hi := i.2
  obtain ⟨cs, hcl, hM, hcell⟩ := Kd.S_get hS [] (i.val : Int) (by omega) (by omega)
  have hget : rows.getD ((i.val : Int)).toNat [] = [P i.val, O i.val] := by
   rw [Int.toNat_natCast, List.getD_eq_getElem?_getD, List.getElem?_eq_getElem (by omega), Option.getD_some]
   exact hrow i.val (by omega)
  rw [hget] at hM
  obtain ⟨v, rfl, hR⟩ := hM
  obtain ⟨b, cp, ev, _, hb2, _⟩ := Kd.R_form hR (by simp)
  subst ev
  have hC := (Kd.R_reads' hR).2.2
  obtain ⟨a0, e0, c0⟩ := Kd.at_int hC 0 (by omega) (by simp)
  obtain ⟨a1, e1, c1⟩ := Kd.at_int hC 1 (by omega) (by simp)
  injection e0 with e0
  injection e1 with e1
  subst e0 e1
  have hne : b ≠ g := fun he => (hR.1 b rfl).2 (by rw [he]; rfl)
  have hc := hcell 0 _ rfl
  rw [show (Kd.slice 3 (Kd.int .i64)).sz = 1 from rfl, Nat.mul_one, Nat.add_zero, Int.toNat_natCast, add_plain] at hc
  rw [add_plain] at c0 c1
  exact ⟨_, b, cp, rfl, hne, hb2, hc, c0, c1⟩
 obtain ⟨f, hf⟩ := Classical.axiomOfChoice hh
 haveI : Inhabited (Fin n) := ⟨⟨0, h0⟩⟩
 obtain ⟨d, hd⟩ : ∃ d : Array (Fin n), d = Array.ofFn (fun i => i) := ⟨_, rfl⟩
 have hds : d.size = n := by rw [hd, Array.size_ofFn]
 have hdi : ∀ (j : Nat) (h : j < n), d[j]! = ⟨j, h⟩ := by
  intro j h
  rw [getElem!_pos d j (by omega)]
  subst hd
  simp
 have key : ∀ x y : Fin n, ltOf (fun x y : Fin n => lexI (P x.val) (O x.val) (P y.val) (O y.val)) x y = decide (x.val < y.val) := by
  intro x y
  unfold ltOf
  show decide (lexI (P x.val) (O x.val) (P y.val) (O y.val) < 0) = decide (x.val < y.val)
  rcases Nat.lt_trichotomy x.val y.val with h | h | h
  ·rw [lexI_lt (hasc x.val y.val h y.2), decide_eq_true h]; rfl
  ·rw [h, lexI_eq]; simp
  ·rw [lexI_gt (hasc y.val x.val h x.2)]; simp; omega
 have hO : Sort.SWO (ltOf (fun x y : Fin n => lexI (P x.val) (O x.val) (P y.val) (O y.val))) := by
  refine ⟨fun x => ?_, fun x y z h1 h2 => ?_, fun x y z h1 h2 => ?_⟩
  ·rw [key, decide_eq_false (Nat.lt_irrefl _)]
  ·rw [key] at h1 h2 ⊢
   have := of_decide_eq_true h1
   have := of_decide_eq_true h2
   exact decide_eq_true (by omega)
  ·rw [key] at h1 h2 ⊢
   have := of_decide_eq_false h1
   have := of_decide_eq_false h2
   exact decide_eq_false (by omega)
 have hT : ∀ x y : Fin n, ltOf (fun x y : Fin n => lexI (P x.val) (O x.val) (P y.val) (O y.val)) x y = false → ltOf (fun x y : Fin n => lexI (P x.val) (O x.val) (P y.val) (O y.val)) y x = false → x = y := by
  intro x y h1 h2
  rw [key] at h1 h2
  have := of_decide_eq_false h1
  have := of_decide_eq_false h2
  exact Fin.ext (by omega)
 have h1 : OneCell f := by
  intro x
  obtain ⟨b, cp, e, _⟩ := hf x
  rw [e]
  rfl
 have hHw : ∀ W' : World, W'.heap = W.heap → Sort.Holds f W' g 0 d := by
  intro W' hW j hj
  rw [hds] at hj
  rw [hdi j hj, Nat.zero_add]
  obtain ⟨b, cp, e, _, _, hc, _⟩ := hf ⟨j, hj⟩
  constructor
  ·have : W'.cell? ⟨g, j, none⟩ = W.cell? ⟨g, j, none⟩ := by simp only [World.cell?, hW]
   rw [this]; exact hc
  ·obtain ⟨cells, hb⟩ := Kd.S_typed hS g rfl
   have := blk_frozen hb j
   have e2 : W'.frozen? ⟨g, j, none⟩ = W.frozen? ⟨g, j, none⟩ := by simp only [World.frozen?, hW]
   rw [e2]; exact this
 have hcmp : CmpLays1 Tryz.prog 63 #[] f (fun x y : Fin n => lexI (P x.val) (O x.val) (P y.val) (O y.val)) g 0 d.size W := by
  intro m os dk hs x y
  obtain ⟨b1, p1, e1, n1, l1, _, c10, c11⟩ := hf x
  obtain ⟨b2, p2, e2, n2, l2, _, c20, c21⟩ := hf y
  have mv : ∀ (b j : Nat) (v : Value), b ≠ g → b < W.heap.size → W.cell? ⟨b, j, none⟩ = some v → (sortWorld f W g 0 m dk os).cell? ⟨b, j, none⟩ = some v := by
   intro b j v hne hlt hc
   unfold sortWorld
   rw [Sort.cell?_grow _ _ _ (by simpa [Sort.putRow, Sort.mapBlock, Sort.ahead] using hlt), Sort.cell?_putRow_other _ _ _ _ _ _ (.inl hne)]
   exact hc
  rw [e1, e2]
  exact ph1_calls b1 b2 p1 p2 (P x.val) (O x.val) (P y.val) (O y.val) _ (mv b1 0 _ n1 l1 c10) (mv b1 1 _ n1 l1 c11) (mv b2 0 _ n2 l2 c20) (mv b2 1 _ n2 l2 c21)
 have hmain := Any.slices_SortFunc_total sortL f h1 _ hO 63 #[] g 0 c d W (enters_of Tryz.func63 (by kernel_rfl) rfl) hcmp (hHw W rfl) hgl (by omega) hT
 rw [hds] at hmain
 refine hmain.mono ?_
 rintro e w' ⟨rfl, k, os, rfl⟩
 refine ⟨rfl, ?_⟩
 have hms : (d.toList.mergeSort fun x y => !(ltOf (fun x y : Fin n => lexI (P x.val) (O x.val) (P y.val) (O y.val))) y x).toArray = d := by
  have : (d.toList.mergeSort fun x y => !(ltOf (fun x y : Fin n => lexI (P x.val) (O x.val) (P y.val) (O y.val))) y x) = d.toList := by
   apply List.mergeSort_of_pairwise
   rw [List.pairwise_iff_getElem]
   intro i j hi hj hij
   have hi' : i < n := by simpa [hds] using hi
   have hj' : j < n := by simpa [hds] using hj
   have ei : d.toList[i] = ⟨i, hi'⟩ := by subst hd; simp
   have ej : d.toList[j] = ⟨j, hj'⟩ := by subst hd; simp
   rw [ei, ej, key]
   simp
   omega
  rw [this]
 rw [hms]
 unfold sortWorld
 rw [Sort.putRow_self f (Sort.ahead W k) g 0 d (hHw _ rfl)]
 exact ⟨rfl, rfl, rfl, by simp [Sort.grow, Sort.ahead], fun q hq => by rw [Sort.heap_grow_old _ _ (by simpa [Sort.ahead] using hq)]; rfl⟩


/-! ### slices_Compare_int_int: function 113 -/
theorem nz_t {x : Int} (h : ¬ x = 0) : (x != 0) = true := by simp [h]
theorem nz_f {x : Int} (h : x = 0) : (x != 0) = false := by simp [h]
theorem cI_one : Lib.compareInt 1 1 = 0 := rfl
set_option maxHeartbeats 4000000 in
set_option maxRecDepth 100000 in
theorem cmp3_calls (g1 g2 c1 c2 : Nat) (p o q r : Int) (w : World) (h0 : w.cell? ⟨g1, 0, none⟩ = some (.int .i64 p)) (h1 : w.cell? ⟨g1, 1, none⟩ = some (.int .i64 o)) (h2 : w.cell? ⟨g1, 2, none⟩ = some (.int .i64 1))
  (k0 : w.cell? ⟨g2, 0, none⟩ = some (.int .i64 q)) (k1 : w.cell? ⟨g2, 1, none⟩ = some (.int .i64 r)) (k2 : w.cell? ⟨g2, 2, none⟩ = some (.int .i64 1)) :
  Calls Tryz.prog 113 #[.slice (some ⟨g1, 0, none⟩) 3 c1, .slice (some ⟨g2, 0, none⟩) 3 c2] w fun e w' => e = .returned (.int .i64 (orI (Lib.compareInt p q) (Lib.compareInt o r))) ∧ w' = w := by
 go_enter Tryz.func113, Tryz.ntmps113
 go_wp2
 go_loopg [11] 3 (fun gg v11 wr => wr = w ∧ ((v11 = .int .i64 0 ∧ 3 ≤ gg) ∨ (v11 = .int .i64 1 ∧ Lib.compareInt p q = 0 ∧ 2 ≤ gg) ∨ (v11 = .int .i64 2 ∧ (Lib.compareInt p q = 0 ∧ Lib.compareInt o r = 0) ∧ 1 ≤ gg) ∨ (v11 = .int .i64 3 ∧ Lib.compareInt p q = 0 ∧ Lib.compareInt o r = 0)))
 case atStart => exact ⟨rfl, .inl ⟨rfl, Nat.le_refl _⟩⟩
 case round =>
  obtain ⟨rfl, h⟩ := hrel
  rcases h with ⟨rfl, hg⟩ | ⟨rfl, hx, hg⟩ | ⟨rfl, hx, hg⟩ | ⟨rfl, hx, hy⟩
  ·by_cases hx : Lib.compareInt p q = 0
   ·have hb := nz_f hx
    have HX := Aside0.mk hx
    clear hx
    go_wp2_with (go_at_call 65; refine (cmpI_calls _ _ _).mono ?_; rintro e w' ⟨rfl, rfl⟩)
    go_roundg 2
    case measure => omega
    case rel => exact ⟨rfl, .inr (.inl ⟨rfl, HX.out, Nat.le_refl _⟩)⟩
   ·have hb := nz_t hx
    have HX := Aside0.mk hx
    clear hx
    go_wp2_with (go_at_call 65; refine (cmpI_calls _ _ _).mono ?_; rintro e w' ⟨rfl, rfl⟩)
    go_ret
    exact ⟨by rw [show orI (Lib.compareInt p q) (Lib.compareInt o r) = Lib.compareInt p q from if_pos HX.out]; rfl, rfl⟩
  ·have HX := Aside0.mk hx
   clear hx
   by_cases hy : Lib.compareInt o r = 0
   ·have hb := nz_f hy
    have HY := Aside0.mk hy
    clear hy
    go_wp2_with (go_at_call 65; refine (cmpI_calls _ _ _).mono ?_; rintro e w' ⟨rfl, rfl⟩)
    go_roundg 1
    case measure => omega
    case rel => exact ⟨rfl, .inr (.inr (.inl ⟨rfl, ⟨HX.out, HY.out⟩, Nat.le_refl _⟩))⟩
   ·have hb := nz_t hy
    clear hy
    go_wp2_with (go_at_call 65; refine (cmpI_calls _ _ _).mono ?_; rintro e w' ⟨rfl, rfl⟩)
    go_ret
    exact ⟨by rw [show orI (Lib.compareInt p q) (Lib.compareInt o r) = Lib.compareInt o r from if_neg (fun h => h HX.out)]; rfl, rfl⟩
  ·have HX := Aside0.mk hx
   have hb := nz_f cI_one
   clear hx
   go_wp2_with (go_at_call 65; refine (cmpI_calls _ _ _).mono ?_; rintro e w' ⟨rfl, rfl⟩)
   go_roundg 0
   case measure => omega
   case rel => exact ⟨rfl, .inr (.inr (.inr ⟨rfl, HX.out.1, HX.out.2⟩))⟩
  ·have HX := Aside0.mk hx
   have HY := Aside0.mk hy
   clear hx hy
   go_wp2
   go_ret
   exact ⟨by rw [show orI (Lib.compareInt p q) (Lib.compareInt o r) = Lib.compareInt o r from if_neg (fun h => h HX.out), HY.out]; rfl, rfl⟩


/-! ### slices_Equal_int_int: function 114 -/
def eq2 (p o q r : Int) : Bool := decide (p = q ∧ o = r)
set_option maxHeartbeats 4000000 in
set_option maxRecDepth 100000 in
theorem eq2_calls (g1 g2 c1 c2 : Nat) (p o q r : Int) (w : World) (h0 : w.cell? ⟨g1, 0, none⟩ = some (.int .i64 p)) (h1 : w.cell? ⟨g1, 1, none⟩ = some (.int .i64 o))
  (k0 : w.cell? ⟨g2, 0, none⟩ = some (.int .i64 q)) (k1 : w.cell? ⟨g2, 1, none⟩ = some (.int .i64 r)) :
  Calls Tryz.prog 114 #[.slice (some ⟨g1, 0, none⟩) 2 c1, .slice (some ⟨g2, 0, none⟩) 2 c2] w fun e w' => e = .returned (.bool (eq2 p o q r)) ∧ Drawn0 w w' := by
 go_enter Tryz.func114, Tryz.ntmps114
 go_wp2
 go_loopg [13] 2 (fun gg v13 wr => ∃ d, wr = w.drewN d ∧ ((v13 = .int .i64 0 ∧ 2 ≤ gg) ∨ (v13 = .int .i64 1 ∧ p = q ∧ 1 ≤ gg) ∨ (v13 = .int .i64 2 ∧ p = q ∧ o = r)))
 case atStart => exact ⟨0, rfl, .inl ⟨rfl, Nat.le_refl _⟩⟩
 case round =>
  obtain ⟨d, rfl, h⟩ := hrel
  rcases h with ⟨rfl, hg⟩ | ⟨rfl, hx, hg⟩ | ⟨rfl, hx, hy⟩
  ·by_cases hx : p = q
   ·have hb : (p != q) = false := by simp [hx]
    have HX := Aside0.mk hx
    clear hx
    go_wp2_with (go_region)
    go_roundg 1
    case measure => omega
    case rel => exact ⟨d + 1, rfl, .inr (.inl ⟨rfl, HX.out, Nat.le_refl _⟩)⟩
   ·have hb : (p != q) = true := by simp [hx]
    have HX := Aside0.mk hx
    clear hx
    go_wp2_with (go_region)
    go_ret
    exact ⟨by rw [show eq2 p o q r = false from decide_eq_false (fun h => HX.out h.1)]; rfl, d + 1, rfl⟩
  ·have HX := Aside0.mk hx
   clear hx
   by_cases hy : o = r
   ·have hb : (o != r) = false := by simp [hy]
    have HY := Aside0.mk hy
    clear hy
    go_wp2_with (go_region)
    go_roundg 0
    case measure => omega
    case rel => exact ⟨d + 1, rfl, .inr (.inr ⟨rfl, HX.out, HY.out⟩)⟩
   ·have hb : (o != r) = true := by simp [hy]
    have HY := Aside0.mk hy
    clear hy
    go_wp2_with (go_region)
    go_ret
    exact ⟨by rw [show eq2 p o q r = false from decide_eq_false (fun h => HY.out h.2)]; rfl, d + 1, rfl⟩
  ·have HX := Aside0.mk hx
   have HY := Aside0.mk hy
   clear hx hy
   go_wp2
   go_ret
   exact ⟨by rw [show eq2 p o q r = true from decide_eq_true ⟨HX.out, HY.out⟩]; rfl, d, rfl⟩


end Go.Proofs.YtcpnmiempaofdaaGreat.G
