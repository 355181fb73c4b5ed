-- Printed by hp.py, a program of this session: a machine's side of laws, out of the translation; Lean checks it.
import Derived.Test.YtcpnmiempaofdaaGreatCx0
import Derived.Test.YtcpnmiempaofdaaGreatCx3
import Derived.Test.YtcpnmiempaofdaaGreatCx4
import Derived.Test.YtcpnmiempaofdaaGreatCx5
import Derived.Test.YtcpnmiempaofdaaGreatCx8
namespace Go.Proofs.YtcpnmiempaofdaaGreat.C
open Go.RowKit Go.Proofs.YtcpnmiempaofdaaGreatW.PrintWords Go.Proofs.YtcpnmiempaofdaaGreatW.PrintLast Go.Proofs.YtcpnmiempaofdaaGreatW.PrintMore
attribute [local go_sem] max2_int min2_int max_two min_two max_three min_three max_four min_four   -- for this text's walks alone
set_option linter.unusedVariables false
set_option linter.unusedSimpArgs false

/-! ### slices_SortFunc_int_int: function 62 -/
def sortL_ren : Go.Shelf.Ren := ⟨fun | 6 => 62 | 15 => 105 | 14 => 104 | 28 => 127 | 29 => 128 | 20 => 119 | 21 => 120 | 22 => 121 | 23 => 122 | 24 => 123 | 25 => 124 | 26 => 125 | 27 => 126 | 46 => 130 | 47 => 131 | 48 => 132 | 49 => 133 | 50 => 134 | 57 => 135 | n => n, fun | 22 => 44 | 24 => 55 | 25 => 97 | 3 => 3 | 39 => 127 | 0 => 0 | 53 => 141 | 55 => 74 | 4 => 4 | 46 => 135 | 45 => 134 | 50 => 31 | 5 => 5 | 9 => 9 | 66 => 143 | 70 => 147 | 76 => 149 | 77 => 84 | n => n, fun | n => n⟩
theorem sortL : Go.Proofs.SlLaysF.n6 Tryz.prog sortL_ren := {
 mixed := by kernel_rfl,
 f6 := ⟨Tryz.f62.name, by decide, Tryz.func62.trans (congrArg some (by kernel_rfl))⟩,
 f14 := ⟨Tryz.f104.name, by decide, Tryz.func104.trans (congrArg some (by kernel_rfl))⟩,
 f15 := Tryz.func105.trans (congrArg some (by kernel_rfl)),
 f20 := ⟨Tryz.f119.name, by decide, Tryz.func119.trans (congrArg some (by kernel_rfl))⟩,
 f21 := ⟨Tryz.f120.name, by decide, Tryz.func120.trans (congrArg some (by kernel_rfl))⟩,
 f22 := ⟨Tryz.f121.name, by decide, Tryz.func121.trans (congrArg some (by kernel_rfl))⟩,
 f23 := ⟨Tryz.f122.name, by decide, Tryz.func122.trans (congrArg some (by kernel_rfl))⟩,
 f24 := ⟨Tryz.f123.name, by decide, Tryz.func123.trans (congrArg some (by kernel_rfl))⟩,
 f25 := ⟨Tryz.f124.name, by decide, Tryz.func124.trans (congrArg some (by kernel_rfl))⟩,
 f26 := ⟨Tryz.f125.name, by decide, Tryz.func125.trans (congrArg some (by kernel_rfl))⟩,
 f27 := ⟨Tryz.f126.name, by decide, Tryz.func126.trans (congrArg some (by kernel_rfl))⟩,
 f28 := Tryz.func127.trans (congrArg some (by kernel_rfl)),
 f29 := Tryz.func128.trans (congrArg some (by kernel_rfl)),
 f46 := ⟨Tryz.f130.name, by decide, Tryz.func130.trans (congrArg some (by kernel_rfl))⟩,
 f47 := Tryz.func131.trans (congrArg some (by kernel_rfl)),
 f48 := Tryz.func132.trans (congrArg some (by kernel_rfl)),
 f49 := ⟨Tryz.f133.name, by decide, Tryz.func133.trans (congrArg some (by kernel_rfl))⟩,
 f50 := ⟨Tryz.f134.name, by decide, Tryz.func134.trans (congrArg some (by kernel_rfl))⟩,
 f57 := ⟨Tryz.f135.name, by decide, Tryz.func135.trans (congrArg some (by kernel_rfl))⟩,
 t0 := Tryz.underlying0,
 a0 := Tryz.isAgg0,
 z0 := Tryz.sizeOf0,
 v0 := Tryz.zeroValue0,
 t3 := Tryz.underlying3,
 a3 := Tryz.isAgg3,
 z3 := Tryz.sizeOf3,
 v3 := Tryz.zeroValue3,
 t4 := Tryz.underlying4,
 a4 := Tryz.isAgg4,
 z4 := Tryz.sizeOf4,
 v4 := Tryz.zeroValue4,
 t5 := Tryz.underlying5,
 a5 := Tryz.isAgg5,
 z5 := Tryz.sizeOf5,
 v5 := Tryz.zeroValue5,
 t9 := Tryz.underlying9,
 a9 := Tryz.isAgg9,
 z9 := Tryz.sizeOf9,
 v9 := Tryz.zeroValue9,
 t22 := Tryz.underlying44,
 a22 := Tryz.isAgg44,
 z22 := Tryz.sizeOf44,
 v22 := Tryz.zeroValue44,
 a24 := Tryz.isAgg55,
 z24 := Tryz.sizeOf55,
 t25 := Tryz.underlying97,
 a25 := Tryz.isAgg97,
 z25 := Tryz.sizeOf97,
 v25 := Tryz.zeroValue97,
 t39 := Tryz.underlying127,
 a39 := Tryz.isAgg127,
 z39 := Tryz.sizeOf127,
 v39 := Tryz.zeroValue127,
 t45 := Tryz.underlying134,
 a45 := Tryz.isAgg134,
 z45 := Tryz.sizeOf134,
 v45 := Tryz.zeroValue134,
 t46 := Tryz.underlying135,
 a46 := Tryz.isAgg135,
 z46 := Tryz.sizeOf135,
 v46 := Tryz.zeroValue135,
 t50 := Tryz.underlying31,
 a50 := Tryz.isAgg31,
 z50 := Tryz.sizeOf31,
 v50 := Tryz.zeroValue31,
 t53 := Tryz.underlying141,
 a53 := Tryz.isAgg141,
 z53 := Tryz.sizeOf141,
 v53 := Tryz.zeroValue141,
 t55 := Tryz.underlying74,
 a55 := Tryz.isAgg74,
 z55 := Tryz.sizeOf74,
 v55 := Tryz.zeroValue74,
 t66 := Tryz.underlying143,
 a66 := Tryz.isAgg143,
 z66 := Tryz.sizeOf143,
 v66 := Tryz.zeroValue143,
 t70 := Tryz.underlying147,
 a70 := Tryz.isAgg147,
 z70 := Tryz.sizeOf147,
 v70 := Tryz.zeroValue147,
 t76 := Tryz.underlying149,
 a76 := Tryz.isAgg149,
 z76 := Tryz.sizeOf149,
 v76 := Tryz.zeroValue149,
 t77 := Tryz.underlying84,
 a77 := Tryz.isAgg84,
 z77 := Tryz.sizeOf84,
 v77 := Tryz.zeroValue84 }
theorem cI_lt {x y : Int} (h : x < y) : Lib.compareInt x y = -1 := if_pos h
theorem cI_gt {x y : Int} (h : y < x) : Lib.compareInt x y = 1 := (if_neg (by omega)).trans (if_pos h)
theorem cI_eq (x : Int) : Lib.compareInt x x = 0 := (if_neg (Int.lt_irrefl x)).trans (if_neg (Int.lt_irrefl x))
theorem lexI_lt {p o q r : Int} (h : p < q ∨ p = q ∧ o < r) : lexI p o q r = -1 := by
 unfold lexI
 rcases h with h | ⟨rfl, h⟩
 ·rw [cI_lt h]; rfl
 ·rw [cI_eq, cI_lt h]; rfl
theorem lexI_gt {p o q r : Int} (h : q < p ∨ q = p ∧ r < o) : lexI p o q r = 1 := by
 unfold lexI
 rcases h with h | ⟨rfl, h⟩
 ·rw [cI_gt h]; rfl
 ·rw [cI_eq, cI_gt h]; rfl
theorem lexI_eq (p o : Int) : lexI p o p o = 0 := by
 unfold lexI
 rw [cI_eq, cI_eq]; rfl
set_option maxHeartbeats 4000000 in
theorem sortRR_calls (g n c : Nat) (rows : List (List Int)) (W : World) (base : Nat) (ok : Nat → Prop) (hS : Kd.S (Kd.slice 3 (Kd.int .i64)) 55 W base ok (.slice (some ⟨g, 0, none⟩) n c) rows) (P O : Nat → Int)
  (hrow : ∀ (i : Nat) (h : i < rows.length), rows[i] = [P i, O i]) (hasc : ∀ i j : Nat, i < j → j < n → P i < P j ∨ P i = P j ∧ O i < O j) (h0 : 0 < n) (hn : n ≤ 1000) :
  Calls Tryz.prog 62 #[.slice (some ⟨g, 0, none⟩) n c, .func (.func 63) #[] #[]] W fun e w' => e = .returned (.tuple #[]) ∧ Below W.heap.size W w' := by
 have hlen : n = rows.length := (Kd.S_reads' hS).1
 have hgl : g < W.heap.size := Kd.S_lt hS g rfl
 have hh : ∀ i : Fin n, ∃ v : Value, ∃ b cp, v = .slice (some ⟨b, 0, none⟩) 2 cp ∧ b ≠ g ∧ b < W.heap.size ∧ W.cell? ⟨g, i.val, none⟩ = some v ∧ W.cell? ⟨b, 0, none⟩ = some (.int .i64 (P i.val)) ∧ W.cell? ⟨b, 1, none⟩ = some (.int .i64 (O i.val)) := by
  intro i
  have hi := i.2
  obtain ⟨cs, hcl, hM, hcell⟩ := Kd.S_get hS [] (i.val : Int) (by omega) (by omega)
  have hget : rows.getD ((i.val : Int)).toNat [] = [P i.val, O i.val] := by
   rw [Int.toNat_natCast, List.getD_eq_getElem?_getD, List.getElem?_eq_getElem (by omega), Option.getD_some]
   exact hrow i.val (by omega)
  rw [hget] at hM
  obtain ⟨v, rfl, hR⟩ := hM
  obtain ⟨b, cp, ev, _, hb2, _⟩ := Kd.R_form hR (by simp)
  subst ev
  have hC := (Kd.R_reads' hR).2.2
  obtain ⟨a0, e0, c0⟩ := Kd.at_int hC 0 (by omega) (by simp)
  obtain ⟨a1, e1, c1⟩ := Kd.at_int hC 1 (by omega) (by simp)
  injection e0 with e0
  injection e1 with e1
  subst e0 e1
  have hne : b ≠ g := fun he => (hR.1 b rfl).2 (by rw [he]; rfl)
  have hc := hcell 0 _ rfl
  rw [show (Kd.slice 3 (Kd.int .i64)).sz = 1 from rfl, Nat.mul_one, Nat.add_zero, Int.toNat_natCast, add_plain] at hc
  rw [add_plain] at c0 c1
  exact ⟨_, b, cp, rfl, hne, hb2, hc, c0, c1⟩
 obtain ⟨f, hf⟩ := Classical.axiomOfChoice hh
 haveI : Inhabited (Fin n) := ⟨⟨0, h0⟩⟩
 obtain ⟨d, hd⟩ : ∃ d : Array (Fin n), d = Array.ofFn (fun i => i) := ⟨_, rfl⟩
 have hds : d.size = n := by rw [hd, Array.size_ofFn]
 have hdi : ∀ (j : Nat) (h : j < n), d[j]! = ⟨j, h⟩ := by
  intro j h
  rw [getElem!_pos d j (by omega)]
  subst hd
  simp
 have key : ∀ x y : Fin n, ltOf (fun x y : Fin n => lexI (P x.val) (O x.val) (P y.val) (O y.val)) x y = decide (x.val < y.val) := by
  intro x y
  unfold ltOf
  show decide (lexI (P x.val) (O x.val) (P y.val) (O y.val) < 0) = decide (x.val < y.val)
  rcases Nat.lt_trichotomy x.val y.val with h | h | h
  ·rw [lexI_lt (hasc x.val y.val h y.2), decide_eq_true h]; rfl
  ·rw [h, lexI_eq]; simp
  ·rw [lexI_gt (hasc y.val x.val h x.2)]; simp; omega
 have hO : Sort.SWO (ltOf (fun x y : Fin n => lexI (P x.val) (O x.val) (P y.val) (O y.val))) := by
  refine ⟨fun x => ?_, fun x y z h1 h2 => ?_, fun x y z h1 h2 => ?_⟩
  ·rw [key, decide_eq_false (Nat.lt_irrefl _)]
  ·rw [key] at h1 h2 ⊢
   have := of_decide_eq_true h1
   have := of_decide_eq_true h2
   exact decide_eq_true (by omega)
  ·rw [key] at h1 h2 ⊢
   have := of_decide_eq_false h1
   have := of_decide_eq_false h2
   exact decide_eq_false (by omega)
 have hT : ∀ x y : Fin n, ltOf (fun x y : Fin n => lexI (P x.val) (O x.val) (P y.val) (O y.val)) x y = false → ltOf (fun x y : Fin n => lexI (P x.val) (O x.val) (P y.val) (O y.val)) y x = false → x = y := by
  intro x y h1 h2
  rw [key] at h1 h2
  have := of_decide_eq_false h1
  have := of_decide_eq_false h2
  exact Fin.ext (by omega)
 have h1 : OneCell f := by
  intro x
  obtain ⟨b, cp, e, _⟩ := hf x
  rw [e]
  rfl
 have hHw : ∀ W' : World, W'.heap = W.heap → Sort.Holds f W' g 0 d := by
  intro W' hW j hj
  rw [hds] at hj
  rw [hdi j hj, Nat.zero_add]
  obtain ⟨b, cp, e, _, _, hc, _⟩ := hf ⟨j, hj⟩
  constructor
  ·have : W'.cell? ⟨g, j, none⟩ = W.cell? ⟨g, j, none⟩ := by simp only [World.cell?, hW]
   rw [this]; exact hc
  ·obtain ⟨cells, hb⟩ := Kd.S_typed hS g rfl
   have := blk_frozen hb j
   have e2 : W'.frozen? ⟨g, j, none⟩ = W.frozen? ⟨g, j, none⟩ := by simp only [World.frozen?, hW]
   rw [e2]; exact this
 have hcmp : CmpLays1 Tryz.prog 63 #[] f (fun x y : Fin n => lexI (P x.val) (O x.val) (P y.val) (O y.val)) g 0 d.size W := by
  intro m os dk hs x y
  obtain ⟨b1, p1, e1, n1, l1, _, c10, c11⟩ := hf x
  obtain ⟨b2, p2, e2, n2, l2, _, c20, c21⟩ := hf y
  have mv : ∀ (b j : Nat) (v : Value), b ≠ g → b < W.heap.size → W.cell? ⟨b, j, none⟩ = some v → (sortWorld f W g 0 m dk os).cell? ⟨b, j, none⟩ = some v := by
   intro b j v hne hlt hc
   unfold sortWorld
   rw [Sort.cell?_grow _ _ _ (by simpa [Sort.putRow, Sort.mapBlock, Sort.ahead] using hlt), Sort.cell?_putRow_other _ _ _ _ _ _ (.inl hne)]
   exact hc
  rw [e1, e2]
  exact ph1_calls b1 b2 p1 p2 (P x.val) (O x.val) (P y.val) (O y.val) _ (mv b1 0 _ n1 l1 c10) (mv b1 1 _ n1 l1 c11) (mv b2 0 _ n2 l2 c20) (mv b2 1 _ n2 l2 c21)
 have hmain := Any.slices_SortFunc_total sortL f h1 _ hO 63 #[] g 0 c d W (enters_of Tryz.func63 (by kernel_rfl) rfl) hcmp (hHw W rfl) hgl (by omega) hT
 rw [hds] at hmain
 refine hmain.mono ?_
 rintro e w' ⟨rfl, k, os, rfl⟩
 refine ⟨rfl, ?_⟩
 have hms : (d.toList.mergeSort fun x y => !(ltOf (fun x y : Fin n => lexI (P x.val) (O x.val) (P y.val) (O y.val))) y x).toArray = d := by
  have : (d.toList.mergeSort fun x y => !(ltOf (fun x y : Fin n => lexI (P x.val) (O x.val) (P y.val) (O y.val))) y x) = d.toList := by
   apply List.mergeSort_of_pairwise
   rw [List.pairwise_iff_getElem]
   intro i j hi hj hij
   have hi' : i < n := by simpa [hds] using hi
   have hj' : j < n := by simpa [hds] using hj
   have ei : d.toList[i] = ⟨i, hi'⟩ := by subst hd; simp
   have ej : d.toList[j] = ⟨j, hj'⟩ := by subst hd; simp
   rw [ei, ej, key]
   simp
   omega
  rw [this]
 rw [hms]
 unfold sortWorld
 rw [Sort.putRow_self f (Sort.ahead W k) g 0 d (hHw _ rfl)]
 exact ⟨rfl, rfl, rfl, by simp [Sort.grow, Sort.ahead], fun q hq => by rw [Sort.heap_grow_old _ _ (by simpa [Sort.ahead] using hq)]; rfl⟩


/-! ### impl_PossibleHints: function 19 -/
theorem ph_store {w W : World} {g t : Nat} (zs ys : List Value) (hl : ys.length = zs.length) (hb : W.heap[g]? = some (.cells zs.toArray t (0, 0))) (hB : Below w.heap.size w W) (hg : w.heap.size ≤ g) :
  (W.setCells g 0 ys).heap[g]? = some (.cells ys.toArray t (0, 0)) ∧ Below w.heap.size w (W.setCells g 0 ys) := by
 obtain ⟨cur', h3, h4, h5⟩ := setCells_row ys 0 W zs.toArray hb (by simp; omega)
 obtain ⟨s1, s2, s3, s4⟩ := setCells_same g ys 0 W
 have e : cur' = ys.toArray := by
  apply Array.toList_inj.mp
  rw [h5]
  simp [hl]
 rw [e] at h3
 exact ⟨h3, s1.trans hB.os, s2.trans hB.tape, s3.trans hB.output, by rw [s4]; exact hB.size, fun k hk => (setCells_far ys 0 k (by omega)).trans (hB.block k hk)⟩
theorem ph_there {W : World} {g t : Nat} {zs : List Value} (hb : W.heap[g]? = some (.cells zs.toArray t (0, 0))) (n : Nat) (hn : n = zs.length) : W.there g 0 n := by
 subst hn
 intro j hj
 rw [Nat.zero_add]
 refine ⟨?_, blk_frozen hb j⟩
 rw [blk_cell hb j]
 simp [hj]
theorem ph_range {W : World} {g t : Nat} {zs : List Value} (hb : W.heap[g]? = some (.cells zs.toArray t (0, 0))) : W.rangeAt g 0 zs := by
 intro j v hv
 rw [Nat.zero_add, blk_cell hb j, List.getElem?_toArray]
 exact hv
theorem ph_idx96 (mt : List Bool) (x : Int) (i : Nat) (hx : x = (i : Int)) (hi : i < 7) (hl : mt.length = 49) (w : World) :
  (Instr.index 93 (.agg (mt.map Value.bool).toArray) (.int .i64 x)).run Tryz.prog w = .ok (.agg (((mt.drop (i * 7)).take 7).map Value.bool).toArray) w := by
 subst hx
 have h1 : (mt.map Value.bool).toArray.extract (i * 7) (i * 7 + 7) = (((mt.drop (i * 7)).take 7).map Value.bool).toArray := by
  apply Array.toList_inj.mp
  simp [List.map_take, List.map_drop, List.extract]
 have h2 : (0 : Int) ≤ (i : Int) ∧ (i : Int) < 7 := by omega
 simp [Instr.index, asIntOf, run_underlying Tryz.underlying93, part, Tryz.isAgg92, Tryz.sizeOf92, h2, hi, h1]
theorem ph_idx95 (l : List Bool) (y : Int) (j : Nat) (hy : y = (j : Int)) (hj : j < 7) (hl : l.length = 7) (w : World) :
  (Instr.index 92 (.agg (l.map Value.bool).toArray) (.int .i64 y)).run Tryz.prog w = .ok (.bool (l.getD j false)) w := by
 subst hy
 have h2 : (0 : Int) ≤ (j : Int) ∧ (j : Int) < 7 := by omega
 simp [Instr.index, asIntOf, run_underlying Tryz.underlying92, part, Tryz.isAgg4, Tryz.sizeOf4, h2, hj, List.getElem?_eq_getElem (show j < l.length by omega)]
theorem ph_one (l : List Bool) : (l.map Value.bool).toArray.all (·.oneCell') = true := all_oneCell_toArray (fun v hv => by obtain ⟨b, _, rfl⟩ := List.mem_map.mp hv; rfl)
def phMet (k : Nat) (g : ByteArray) (met : List Bool) (s : ByteArray) : Option (List Bool) :=
 (impl_hint.f k g s).bind fun t => if (0 ≤ t.1 ∧ t.1 < 7) ∧ 0 ≤ t.2 ∧ t.2 < 7 then some (met.set (t.1.toNat * 7 + t.2.toNat) true) else none
def phIn (k : Nat) (codes : List ByteArray) (met : List Bool) (g : ByteArray) : Option (List Bool) := foldO (phMet k g) met codes
def phRows (met : List Bool) (q : Nat) : List (List Int) := ((List.range q).filter (fun q => met.getD q false)).map (fun q => [((q / 7 : Nat) : Int), ((q % 7 : Nat) : Int)])
def impl_PossibleHints.f (k : Nat) (a b : Int) : Option (List (List Int) × Bool) :=
 (impl_isSmall.f k a b 256).bind fun t => if t = true then
  (impl_Lock_fitting.f k a b []).bind fun codes => if codes.length ≤ 1000 then
   (foldO (phIn k codes) (List.replicate 49 false) codes).bind fun met => if 0 < (phRows met 49).length then some (phRows met 49, true) else none
  else none
 else some ([], false)
theorem impl_PossibleHints.mono : ∀ a b k, LeO (impl_PossibleHints.f k a b) (impl_PossibleHints.f (k + 1) a b) := fun a b k =>
 LeO.bind (impl_isSmall.mono _ _ _ _) (fun t => LeO.ite (LeO.bind (impl_Lock_fitting.mono _ _ _ _) (fun codes => LeO.ite (LeO.bind (foldO_mono (fun s x => foldO_mono (fun s x => LeO.bind (impl_hint.mono _ _ _) (fun _ => LeO.refl _)) _ _) _ _) (fun _ => LeO.refl _)) (LeO.refl _))) (LeO.refl _))
theorem phRows_true (mt : List Bool) (i j : Nat) (hj : j < 7) (h : mt.getD (i * 7 + j) false = true) : phRows mt (i * 7 + (j + 1)) = phRows mt (i * 7 + j) ++ [[(i : Int), (j : Int)]] := by
 unfold phRows
 rw [← Nat.add_assoc, List.range_succ, List.filter_append, List.map_append, List.filter_cons, if_pos h]
 simp only [List.filter_nil, List.map_cons, List.map_nil]
 rw [show (i * 7 + j) / 7 = i by omega, show (i * 7 + j) % 7 = j by omega]
theorem phRows_false (mt : List Bool) (i j : Nat) (h : mt.getD (i * 7 + j) false = false) : phRows mt (i * 7 + (j + 1)) = phRows mt (i * 7 + j) := by
 unfold phRows
 rw [← Nat.add_assoc, List.range_succ, List.filter_append, List.map_append, List.filter_cons, if_neg (by rw [h]; decide)]
 simp
theorem phRows_le (mt : List Bool) (q : Nat) : (phRows mt q).length ≤ q := by
 unfold phRows
 have := List.length_filter_le (fun q => mt.getD q false) (List.range q)
 simpa using this
theorem ph_bit (mt : List Bool) (i j : Nat) (hi : i < 7) (hj : j < 7) (hl : mt.length = 49) : ((mt.drop (i * 7)).take 7).getD j false = mt.getD (i * 7 + j) false := by
 simp only [List.getD_eq_getElem?_getD, List.getElem?_take, List.getElem?_drop, if_pos hj]
theorem phRows_two (mt : List Bool) (q i : Nat) (h : i < (phRows mt q).length) : (phRows mt q)[i] = [((phRows mt q).getD i []).getD 0 0, ((phRows mt q).getD i []).getD 1 0] := by
 have : (phRows mt q).getD i [] = (phRows mt q)[i] := by rw [List.getD_eq_getElem?_getD, List.getElem?_eq_getElem h, Option.getD_some]
 rw [this]
 simp [phRows]
theorem phRows_asc (mt : List Bool) (q i j : Nat) (hij : i < j) (h : j < (phRows mt q).length) :
  ((phRows mt q).getD i []).getD 0 0 < ((phRows mt q).getD j []).getD 0 0 ∨ ((phRows mt q).getD i []).getD 0 0 = ((phRows mt q).getD j []).getD 0 0 ∧ ((phRows mt q).getD i []).getD 1 0 < ((phRows mt q).getD j []).getD 1 0 := by
 have hi : i < (phRows mt q).length := by omega
 have e1 : (phRows mt q).getD i [] = (phRows mt q)[i] := by rw [List.getD_eq_getElem?_getD, List.getElem?_eq_getElem hi, Option.getD_some]
 have e2 : (phRows mt q).getD j [] = (phRows mt q)[j] := by rw [List.getD_eq_getElem?_getD, List.getElem?_eq_getElem h, Option.getD_some]
 rw [e1, e2]
 have hp : ((List.range q).filter (fun q => mt.getD q false)).Pairwise (· < ·) := List.Pairwise.filter _ List.pairwise_lt_range
 have hlen : (phRows mt q).length = ((List.range q).filter (fun q => mt.getD q false)).length := by simp [phRows]
 have := List.pairwise_iff_getElem.mp hp i j (by omega) (by omega) hij
 simp only [phRows, List.getElem_map, List.getD_cons_zero, List.getD_cons_succ]
 generalize ((List.range q).filter (fun q => mt.getD q false))[i]'(by omega) = a at *
 generalize ((List.range q).filter (fun q => mt.getD q false))[j]'(by omega) = b at *
 omega
set_option maxHeartbeats 8000000 in
set_option maxRecDepth 100000 in
theorem impl_PossibleHints.calls (k : Nat) (a b : Int) (r : List (List Int)) (r2 : Bool) (w : World) (h : impl_PossibleHints.f k a b = some (r, r2)) :
  Calls Tryz.prog 19 #[.agg #[.int .i64 a, .int .i64 b]] w fun e w' => ∃ v0_ : Value, e = .returned (.tuple #[v0_, .bool r2]) ∧ Kd.S (Kd.slice 3 (Kd.int .i64)) 55 w' w.heap.size (fun _ => True) v0_ r ∧ Below w.heap.size w w' := by
 have hu26 := Tryz.underlying25
 unfold impl_PossibleHints.f at h
 obtain ⟨t, ht, h⟩ := Option.bind_eq_some_iff.mp h
 have hsm : ∀ W, Calls Tryz.prog 59 #[.agg #[.int .i64 a, .int .i64 b], .int .i64 256] W _ := fun W => impl_isSmall.calls k a b 256 t W ht
 clear ht
 cases t with
 | false =>
  rw [if_neg (by decide)] at h
  obtain ⟨rfl, rfl⟩ : [] = r ∧ false = r2 := by simpa using h
  clear h
  go_enter Tryz.func19, Tryz.ntmps19
  go_wp2_with (go_at_call 59; refine (hsm _).mono ?_; rintro e w1 ⟨rfl, hb⟩; have HB := Aside0.mk hb; clear hb)
  go_ret2
  exact ⟨_, rfl, Kd.S_nil _ _ _ _ _, below_then (below_alloc (Below.refl _ _) _) (by simp) HB.out⟩
 | true =>
 rw [if_pos rfl] at h
 obtain ⟨codes, hc, h⟩ := Option.bind_eq_some_iff.mp h
 have hfit : ∀ W, Calls Tryz.prog 58 #[.agg #[.int .i64 a, .int .i64 b], .slice none 0 0] W _ := fun W => impl_Lock_fitting.calls k a b none 0 [] codes W (Kd.C_nil _ _) (by simp) hc
 by_cases hl : codes.length ≤ 1000
 case neg => rw [if_neg hl] at h; exact absurd h (by simp)
 rw [if_pos hl] at h
 obtain ⟨met, hm, h⟩ := Option.bind_eq_some_iff.mp h
 by_cases hp : 0 < (phRows met 49).length
 case neg => rw [if_neg hp] at h; exact absurd h (by simp)
 rw [if_pos hp] at h
 obtain ⟨h1, h2⟩ : phRows met 49 = r ∧ true = r2 := by simpa using h
 subst h1 h2
 have HM := Aside0.mk hm
 have HL := Aside0.mk hl
 have HP := Aside0.mk hp
 clear h hc hm hl hp
 go_enter Tryz.func19, Tryz.ntmps19
 have hi96 : (Tryz.prog.info? 93).map (·.size) = some 49 := by kernel_rfl
 have HI96 := Aside0.mk hi96
 clear hi96
 go_wp2_with (first
  | (go_at_call 59; refine (hsm _).mono ?_; rintro e w1 ⟨rfl, hb⟩; have HB := Aside0.mk (below_then (below_alloc (Below.refl w.heap.size w) _) (by simp) hb); have BX := Aside0.mk (blk_below (blk_new w _) hb); have hc0 : w1.cell? ⟨w.heap.size, 0, none⟩ = some (.int .i64 a) := (blk_cell BX.out 0).trans rfl; have hc1 : w1.cell? ⟨w.heap.size, 1, none⟩ = some (.int .i64 b) := (blk_cell BX.out 1).trans rfl; clear hb)
  | ((with_reducible refine gate_dst (N := 4) rfl ?_); refine box_event ?hg (N := 4) ?hd (cs := ((List.replicate 49 false).map Value.bool).toArray) (t := 93) ?hr ?_; (case hd => rfl); (case hg => rfl); (case hr => first | (go_simp; done) | (go_simp; rfl)); intro g4 hg w4 hbox hb; have BK4 := Aside0.mk hbox; have n0 := Aside0.mk (blk_below BX.out hb); have n1 := Aside0.mk (below_then HB.out HB.out.size hb); have GE4 : Aside0 (w.heap.size ≤ g4) := ⟨by rw [hg]; exact HB.out.size⟩; have NX : Aside0 (w.heap.size ≠ g4) := ⟨by rw [hg]; exact Nat.ne_of_lt (blk_lt BX.out)⟩; clear hbox hb hg BX HB hc0 hc1; have BX := n0; have HB := n1; clear n0 n1)
  | ((with_reducible refine gate_store (t := 93) (p := 4) rfl ?_); refine wpList_store_mid rfl 93 (.tmp 4) (.tmp 20) rfl g4 0 ((List.replicate 49 false).map Value.bool).toArray rfl rfl (ph_there BK4.out _ rfl) HI96.out (ph_one _) ?_; obtain ⟨W5, hW5⟩ : ∃ W5, W5 = w4.setCells g4 0 ((List.replicate 49 false).map Value.bool).toArray.toList := ⟨_, rfl⟩; have hst := ph_store (w := w) ((List.replicate 49 false).map Value.bool) ((List.replicate 49 false).map Value.bool).toArray.toList rfl BK4.out HB.out GE4.out; have hbx := (setCells_far ((List.replicate 49 false).map Value.bool).toArray.toList 0 (w := w4) w.heap.size NX.out).trans BX.out; rw [← hW5] at hst hbx ⊢; have n0 := Aside0.mk hst.1; have n1 := Aside0.mk hst.2; have hc0 : W5.cell? ⟨w.heap.size, 0, none⟩ = some (.int .i64 a) := (blk_cell hbx 0).trans rfl; have hc1 : W5.cell? ⟨w.heap.size, 1, none⟩ = some (.int .i64 b) := (blk_cell hbx 1).trans rfl; clear BK4 HB hst hW5 hbx BX; have BK4 := n0; have HB := n1; clear n0 n1)
  | (go_at_call 58; refine (hfit _).mono ?_; rintro e w5 ⟨vc, rfl, hr, hb⟩; obtain ⟨Ac, cc, ec⟩ := Kd.R_slice hr; subst ec; have n0 := Aside0.mk (blk_below BK4.out hb); have n1 := Aside0.mk (below_then HB.out HB.out.size hb); have HC : Aside0 (Kd.R Kd.string 9 w5 w.heap.size (fun k_ => k_ ≠ g4) (.slice Ac codes.length cc) codes) := ⟨Kd.R_lower (Kd.R_mono (Kd.R_bound hr) (fun q hq => by have := hq.2.1; have := blk_lt BK4.out; omega)) HB.out.size⟩; clear hr hb hc0 hc1 HB BK4; have BK4 := n0; have HB := n1; clear n0 n1))
 clear hsm hfit
 go_loopg [25] codes.length (fun gg v25 wr => ∃ (i : Nat) (mt : List Bool), v25 = .int .i64 (i : Int) ∧ i ≤ codes.length ∧ codes.length - i ≤ gg ∧ Aside0 (foldO (phIn k codes) mt (codes.drop i) = some met) ∧ Aside0 (mt.length = 49) ∧ Aside0 (wr.heap[g4]? = some (.cells (mt.map Value.bool).toArray 93 (0, 0))) ∧ Aside0 (Kd.R Kd.string 9 wr w.heap.size (fun k_ => k_ ≠ g4) (.slice Ac codes.length cc) codes) ∧ Aside0 (Below w.heap.size w wr))
 case atStart => exact ⟨0, List.replicate 49 false, rfl, by omega, by omega, by simpa using HM, ⟨by simp⟩, BK4, HC, HB⟩
 case round =>
  clear HM BK4 HC HB
  obtain ⟨i, mt, rfl, hi, hg, HM, HLM, BK4, HC, HB⟩ := hrel
  obtain ⟨x, hx⟩ : ∃ x : Int, x = (i : Int) := ⟨_, rfl⟩
  have HXI := Aside0.mk hx
  rw [← hx]
  by_cases hlt : i < codes.length
  ·have hxlt : decide (x < (codes.length : Int)) = true := decide_eq_true (by omega)
   have H0 := HM.out
   rw [List.drop_eq_getElem_cons hlt, foldO] at H0
   obtain ⟨mt9, hin, H⟩ := Option.bind_eq_some_iff.mp H0
   unfold phIn at hin
   obtain ⟨g, hgd⟩ : ∃ g, g = codes[i] := ⟨_, rfl⟩
   rw [← hgd] at hin
   obtain ⟨gc, cc', ev, _, _, _⟩ := Kd.R_form HC.out (by omega)
   injection ev with ea en ec
   subst ea ec
   clear en
   obtain ⟨cx, _⟩ := Kd.R_celln ByteArray.empty HC.out x (by omega) (by omega)
   have hrd : rdOf ByteArray.empty codes x = g := by rw [hgd, hx]; unfold rdOf; simp [hlt]
   rw [hrd] at cx
   have q0 : (0 ≤ x) = True := eq_true (by omega)
   have q1 : (x < (codes.length : Int)) = True := eq_true (by omega)
   have HNX : Aside0 (wrap64 (x + 1) = ((i + 1 : Nat) : Int)) := ⟨by have := HL.out; unfold wrap64; omega⟩
   have HIN := Aside0.mk hin
   have HM2 := Aside0.mk H
   have HLT := Aside0.mk hlt
   have HG := Aside0.mk hg
   clear H H0 hin HM hrd hi hg
   clear hgd hx hlt
   go_wp2
   go_loopg [31] codes.length (fun gg v31 wx => ∃ (j : Nat) (m2 : List Bool), v31 = .int .i64 (j : Int) ∧ j ≤ codes.length ∧ codes.length - j ≤ gg ∧ Aside0 (foldO (phMet k g) m2 (codes.drop j) = some mt9) ∧ Aside0 (m2.length = 49) ∧ Aside0 (wx.heap[g4]? = some (.cells (m2.map Value.bool).toArray 93 (0, 0))) ∧ Aside0 (Kd.R Kd.string 9 wx w.heap.size (fun k_ => k_ ≠ g4) (.slice (some ⟨gc, 0, none⟩) codes.length cc) codes) ∧ Aside0 (Below w.heap.size w wx))
   case atStart => exact ⟨0, mt, rfl, by omega, by omega, by simpa using HIN, HLM, BK4, HC, HB⟩
   case round =>
    clear HIN HLM BK4 HC HB cx q0 q1
    obtain ⟨j, m2, rfl, hj, hgj, HM3, HLM, BK4, HC, HB⟩ := hrel
    obtain ⟨y, hy⟩ : ∃ y : Int, y = (j : Int) := ⟨_, rfl⟩
    have HYJ := Aside0.mk hy
    rw [← hy]
    by_cases hltj : j < codes.length
    ·have hylt : decide (y < (codes.length : Int)) = true := decide_eq_true (by omega)
     have H0 := HM3.out
     rw [List.drop_eq_getElem_cons hltj, foldO] at H0
     obtain ⟨m3, hst0, H⟩ := Option.bind_eq_some_iff.mp H0
     unfold phMet at hst0
     obtain ⟨⟨p, o⟩, hh, hst⟩ := Option.bind_eq_some_iff.mp hst0
     obtain ⟨s, hs⟩ : ∃ s, s = codes[j] := ⟨_, rfl⟩
     rw [← hs] at hh
     dsimp only at hst
     by_cases hpo : (0 ≤ p ∧ p < 7) ∧ 0 ≤ o ∧ o < 7
     case neg => rw [if_neg hpo] at hst; exact absurd hst (by simp)
     rw [if_pos hpo] at hst
     have HST := Aside0.mk (Option.some.inj hst)
     obtain ⟨cx, _⟩ := Kd.R_celln ByteArray.empty HC.out y (by omega) (by omega)
     have hrd : rdOf ByteArray.empty codes y = s := by rw [hs, hy]; unfold rdOf; simp [hltj]
     rw [hrd] at cx
     have q0 : (0 ≤ y) = True := eq_true (by omega)
     have q1 : (y < (codes.length : Int)) = True := eq_true (by omega)
     have HNY : Aside0 (wrap64 (y + 1) = ((j + 1 : Nat) : Int)) := ⟨by have := HL.out; unfold wrap64; omega⟩
     have hhint : ∀ W, Calls Tryz.prog 56 #[.string g, .string s] W fun e w' => e = .returned (.tuple #[.int .i64 p, .int .i64 o]) ∧ Below W.heap.size W w' := fun W => impl_hint.calls k g s p o W hh
     have p0 : (0 ≤ p) = True := eq_true hpo.1.1
     have p1 : (p < 7) = True := eq_true hpo.1.2
     have o0 : (0 ≤ o) = True := eq_true hpo.2.1
     have o1 : (o < 7) = True := eq_true hpo.2.2
     have HPO := Aside0.mk hpo
     have HM4 := Aside0.mk H
     have HLTJ := Aside0.mk hltj
     have HGJ := Aside0.mk hgj
     clear H H0 HM3 hst hst0 hh hpo hrd hj hgj
     clear hs hy hltj
     go_wp2_with (go_at_call 56; go_loud (refine (hhint _).mono ?_; rintro e w6 ⟨rfl, hb⟩; have n0 := Aside0.mk (blk_below BK4.out hb); have n1 := Aside0.mk (below_then HB.out HB.out.size hb); have n2 := Aside0.mk (Kd.R_below HC.out hb); clear BK4 HB HC cx hb; have BK4 := n0; have HB := n1; have HC := n2; clear n0 n1 n2; obtain ⟨bv, hbv⟩ : ∃ bv, w6.cell? ⟨g4, p.toNat * 7 + o.toNat, none⟩ = some bv := ⟨_, (blk_cell BK4.out _).trans (Array.getElem?_eq_getElem (by simp only [List.size_toArray, List.length_map, HLM.out]; have := HPO.out; omega))⟩; have hfv := blk_frozen BK4.out (p.toNat * 7 + o.toNat)))
     go_roundg (codes.length - (j + 1))
     case measure => have := HGJ.out; have := HLTJ.out; omega
     case rel => exact ⟨j + 1, m3, by rw [HNY.out], by have := HLTJ.out; omega, Nat.le_refl _, HM4, ⟨by rw [← HST.out, List.length_set]; exact HLM.out⟩, ⟨blk_put BK4.out (p.toNat * 7 + o.toNat) (.bool true) (by rw [← HST.out]; simp [List.map_set])⟩, ⟨Kd.R_far (p := ⟨g4, p.toNat * 7 + o.toNat, none⟩) HC.out (fun _ hk => hk) _⟩, ⟨below_set HB.out GE4.out⟩⟩
    ·have hde : j = codes.length := by omega
     have hylt : decide (y < (codes.length : Int)) = false := decide_eq_false (by omega)
     have he : m2 = mt9 := by
      have := HM3.out
      rw [hde, List.drop_eq_nil_of_le (Nat.le_refl _), foldO] at this
      exact Option.some.inj this
     subst he
     clear HM3 hy hltj hde hj hgj
     go_wp2
     go_roundg (codes.length - (i + 1))
     case measure => have := HG.out; have := HLT.out; omega
     case rel => exact ⟨i + 1, m2, by rw [HNX.out], by have := HLT.out; omega, Nat.le_refl _, HM2, HLM, BK4, HC, HB⟩
  ·have hde : i = codes.length := by omega
   have hxlt : decide (x < (codes.length : Int)) = false := decide_eq_false (by omega)
   have he : mt = met := by
    have := HM.out
    rw [hde, List.drop_eq_nil_of_le (Nat.le_refl _), foldO] at this
    exact Option.some.inj this
   subst he
   clear HM hx hlt hde hi hg
   have hu96 := Tryz.underlying93
   have hu95 := Tryz.underlying92
   have HIN56 : Aside0 ((Tryz.prog.info? 55).map (fun i => (i.zero, i.size, i.bytes)) = some (some (.slice none 0 0), 1, 24)) := ⟨by kernel_rfl⟩
   have HU96 := Aside0.mk hu96
   have HU95 := Aside0.mk hu95
   have hi95 : (Tryz.prog.info? 92).map (·.size) = some 7 := by kernel_rfl
   have HI95 := Aside0.mk hi95
   clear hu96 hu95 hi95
   go_wp2_with ((with_reducible refine gate_dst (N := 48) rfl ?_); refine wpList_load_mid rfl 93 (.tmp 4) rfl g4 0 rfl (mt.map Value.bool) (.array 7 92) (ph_range (blk_alloc BK4.out _)) HU96.out rfl (by rw [List.length_map, HLM.out]; exact HI96.out) ?_)
   have HS0 : Aside0 (Kd.S (Kd.slice 3 (Kd.int .i64)) 55 (wr.alloc (.cells #[] 55)) w.heap.size (fun _ => True) (.slice (some ⟨wr.heap.size, 0, none⟩) 0 0) (phRows mt 0)) := ⟨⟨fun _ => 0, hw_R_lit (Kd.tag (fun _ => 0) (Kd.slice 3 (Kd.int .i64))) wr 55 w.heap.size wr.heap.size (xs := ([] : List (List Int)).zipIdx) (inner := []) (ok := fun _ => True) (okp := fun _ => False) rfl (Reps.none _ _) (fun _ h => h.elim) trivial HB.out.size (by simp)⟩⟩
   have n1 := Aside0.mk (below_alloc HB.out (.cells #[] 55))
   clear HB BK4 HC
   have HB := n1
   clear n1
   obtain ⟨W3, hW3⟩ : ∃ W3, W3 = wr.alloc (.cells #[] 55) := ⟨_, rfl⟩
   rw [← hW3] at HS0 HB ⊢
   clear hW3
   go_loopg [12, 49] 7 (fun gg v12 v49 wx => ∃ i : Nat, v49 = .int .i64 (i : Int) ∧ i ≤ 7 ∧ 7 - i ≤ gg ∧ Aside0 (Kd.S (Kd.slice 3 (Kd.int .i64)) 55 wx w.heap.size (fun _ => True) v12 (phRows mt (i * 7))) ∧ Aside0 (Below w.heap.size w wx))
   case atStart => exact ⟨0, rfl, by omega, by omega, HS0, HB⟩
   case round =>
    clear HS0 HB
    obtain ⟨i, rfl, hi, hg, HS, HB⟩ := hrel
    obtain ⟨x, hx⟩ : ∃ x : Int, x = (i : Int) := ⟨_, rfl⟩
    have HXI := Aside0.mk hx
    rw [← hx]
    obtain ⟨A2, c2, e2⟩ := Kd.S_slice HS.out
    subst e2
    by_cases hlt : i < 7
    ·have hxlt : decide (x < 7) = true := decide_eq_true (by omega)
     have HLT := Aside0.mk hlt
     have HG := Aside0.mk hg
     have HNX : Aside0 (wrap64 (x + 1) = ((i + 1 : Nat) : Int)) := ⟨by unfold wrap64; omega⟩
     obtain ⟨rv, hrv⟩ : ∃ rv : Array Value, rv = (((mt.drop (i * 7)).take 7).map Value.bool).toArray := ⟨_, rfl⟩
     have hidx : ∀ W, (Instr.index 93 (.agg (mt.map Value.bool).toArray) (.int .i64 x)).run Tryz.prog W = .ok (.agg rv) W := fun W => by rw [hrv]; exact ph_idx96 mt x i HXI.out HLT.out HLM.out W
     have HRV := Aside0.mk hrv
     have HRS : Aside0 (rv.size = 7) := ⟨by rw [hrv]; simp [HLM.out]; have := HLT.out; omega⟩
     clear hrv
     clear hi hg hlt hx
     go_wp2_with (first
      | ((with_reducible refine gate_dst (N := 14) rfl ?_); go_loud (refine box_event ?hg (N := 14) ?hd (cs := ((List.replicate 7 false).map Value.bool).toArray) (t := 92) ?hr ?_; (case hd => rfl); (case hg => rfl); (case hr => first | (go_simp; done) | (go_simp; rfl)); intro g14 hg w4 hbox hb; have BK14 := Aside0.mk hbox; have n0 := Aside0.mk (Kd.S_below HS.out hb); have n1 := Aside0.mk (below_then HB.out HB.out.size hb); have GE14 : Aside0 (w.heap.size ≤ g14) := ⟨by rw [hg]; exact HB.out.size⟩; clear hbox hb hg HS HB; have HS := n0; have HB := n1; clear n0 n1))
      | ((with_reducible refine gate_store (t := 92) (p := 14) rfl ?_); go_loud (refine wpList_store_mid rfl 92 (.tmp 14) (.tmp 52) rfl g14 0 rv rfl rfl (ph_there BK14.out _ (by rw [HRS.out]; simp)) (by rw [HI95.out, HRS.out]) (by rw [HRV.out]; exact ph_one _) ?_; obtain ⟨W5, hW5⟩ : ∃ W5, W5 = w4.setCells g14 0 rv.toList := ⟨_, rfl⟩; have hst := ph_store (w := w) ((List.replicate 7 false).map Value.bool) rv.toList (by rw [Array.length_toList, HRS.out]; simp) BK14.out HB.out GE14.out; have hss := Kd.S_step (w1 := w4.setCells g14 0 rv.toList) (Kd.S_types HS.out BK14.out (by decide)) (fun q hq _ => setCells_far _ 0 q hq.2); rw [← hW5] at hst hss ⊢; have n0 := Aside0.mk hst.1; have n1 := Aside0.mk hst.2; have n2 := Aside0.mk (Kd.S_mono hss (ok' := fun _ => True) (fun _ _ => trivial)); clear BK14 HB HS hst hss hW5; have BK14 := n0; have HB := n1; have HS := n2; clear n0 n1 n2))
      | ((with_reducible refine gate_dst (N := 53) rfl ?_); refine wpList_load_mid rfl 92 (.tmp 14) rfl g14 0 rfl rv.toList (.array 7 4) (ph_range BK14.out) HU95.out rfl (by rw [HI95.out, Array.length_toList, HRS.out]) ?_))
     go_loopg [12, 54] 7 (fun gg v12 v54 wz => ∃ j : Nat, v54 = .int .i64 (j : Int) ∧ j ≤ 7 ∧ 7 - j ≤ gg ∧ Aside0 (Kd.S (Kd.slice 3 (Kd.int .i64)) 55 wz w.heap.size (fun _ => True) v12 (phRows mt (i * 7 + j))) ∧ Aside0 (Below w.heap.size w wz))
     case atStart => exact ⟨0, rfl, by omega, by omega, HS, HB⟩
     case round =>
      clear HS HB
      obtain ⟨j, rfl, hj, hgj, HS, HB⟩ := hrel
      obtain ⟨y, hy⟩ : ∃ y : Int, y = (j : Int) := ⟨_, rfl⟩
      have HYJ := Aside0.mk hy
      rw [← hy]
      obtain ⟨A5, c5, e5⟩ := Kd.S_slice HS.out
      subst e5
      by_cases hltj : j < 7
      ·have hylt : decide (y < 7) = true := decide_eq_true (by omega)
       have HLTJ := Aside0.mk hltj
       have HGJ := Aside0.mk hgj
       have HNY : Aside0 (wrap64 (y + 1) = ((j + 1 : Nat) : Int)) := ⟨by unfold wrap64; omega⟩
       clear hj hgj hltj hy
       skip
       by_cases hbt : mt.getD (i * 7 + j) false = true
       ·have HBT := Aside0.mk hbt
        clear hbt
        have hix : ∀ W, (Instr.index 92 (.agg rv) (.int .i64 y)).run Tryz.prog W = .ok (.bool true) W := fun W => by rw [HRV.out, ph_idx95 _ y j HYJ.out HLTJ.out (by simp [HLM.out]; have := HLT.out; omega), ph_bit mt i j HLT.out HLTJ.out HLM.out, HBT.out]
        go_wp2_with ((with_reducible refine gate_builtin (b := .append) (xs := #[.tmp 59, .tmp 63]) rfl ?_); at_builtin; refine Kd.S_append (Kd.slice 3 (Kd.int .i64)) (w0 := w) (W := wr.alloc (.cells #[.int .i64 x, .int .i64 y] 3)) w.heap.size rfl (.tmp 59) (.tmp 63) 44 55 (.slice none 0 0) 24 rfl Tryz.underlying44 HIN56.out rfl (by decide) (by omega) (.slice A5 (phRows mt (i * 7 + j)).length c5) (phRows mt (i * 7 + j)) [x, y] [.slice (some ⟨wr.heap.size, 0, none⟩) 2 2] (fun _ => True) (fun k_ => k_ = wr.heap.size) rfl (by first | rfl | (go_simp; done)) ?aP ?aK (fun _ _ => trivial) ?aO ?aB ?aS ?aL ?_; (case aP => exact ⟨_, rfl, hw_R_lit (Kd.int .i64) wr 3 w.heap.size wr.heap.size (xs := [x, y]) (inner := [.int .i64 x, .int .i64 y]) (ok := fun k_ => k_ = wr.heap.size) (okp := fun _ => False) rfl (Reps.one rfl (Reps.one rfl (Reps.none _ _))) (fun _ h => h.elim) rfl HB.out.size (by simp)⟩); (case aK => intro q hq; refine ⟨trivial, fun he => ?_⟩; have := Kd.S_lt HS.out q he.symm; omega); (case aO => exact Kd.S_mono (Kd.S_alloc (Kd.S_bound HS.out) _) (fun q hq => ⟨trivial, fun he => by have := hq.2.2.1; omega⟩)); (case aB => exact below_alloc HB.out _); (case aS => have := HB.out.size; have := World.size_alloc wr (.cells #[.int .i64 x, .int .i64 y] 3); omega); (case aL => have := phRows_le mt (i * 7 + j); have := HLT.out; have := HLTJ.out; omega); intro v1 w9 ho hb hg hat; have HS9 := Aside0.mk ho; have HB9 := Aside0.mk hb; clear ho hb hg hat)
        go_roundg (7 - (j + 1))
        case measure => have := HGJ.out; have := HLTJ.out; omega
        case rel => exact ⟨j + 1, by rw [HNY.out], by have := HLTJ.out; omega, Nat.le_refl _, ⟨by rw [phRows_true mt i j HLTJ.out HBT.out, ← HXI.out, ← HYJ.out]; exact HS9.out⟩, HB9⟩
       ·have HBT := Aside0.mk (Bool.eq_false_iff.mpr hbt)
        clear hbt
        have hix : ∀ W, (Instr.index 92 (.agg rv) (.int .i64 y)).run Tryz.prog W = .ok (.bool false) W := fun W => by rw [HRV.out, ph_idx95 _ y j HYJ.out HLTJ.out (by simp [HLM.out]; have := HLT.out; omega), ph_bit mt i j HLT.out HLTJ.out HLM.out, HBT.out]
        go_wp2
        go_roundg (7 - (j + 1))
        case measure => have := HGJ.out; have := HLTJ.out; omega
        case rel => exact ⟨j + 1, by rw [HNY.out], by have := HLTJ.out; omega, Nat.le_refl _, ⟨by rw [phRows_false mt i j HBT.out]; exact HS.out⟩, HB⟩
      ·have hde : j = 7 := by omega
       have hylt : decide (y < 7) = false := decide_eq_false (by omega)
       have HS7 : Aside0 (Kd.S (Kd.slice 3 (Kd.int .i64)) 55 wr w.heap.size (fun _ => True) (.slice A5 (phRows mt (i * 7 + j)).length c5) (phRows mt ((i + 1) * 7))) := ⟨by rw [show (i + 1) * 7 = i * 7 + j by omega]; exact HS.out⟩
       clear HS hj hgj hltj hy hde
       go_wp2
       go_roundg (7 - (i + 1))
       case measure => have := HG.out; have := HLT.out; omega
       case rel => exact ⟨i + 1, by rw [HNX.out], by have := HLT.out; omega, Nat.le_refl _, HS7, HB⟩
    ·have hde : i = 7 := by omega
     have hxlt : decide (x < 7) = false := decide_eq_false (by omega)
     have HS49 : Aside0 (Kd.S (Kd.slice 3 (Kd.int .i64)) 55 wr w.heap.size (fun _ => True) (.slice A2 (phRows mt (i * 7)).length c2) (phRows mt 49)) := ⟨by have h := HS.out; rw [show i * 7 = 49 by omega] at h ⊢; exact h⟩
     have hn0 : (phRows mt (i * 7)).length = (phRows mt 49).length := by rw [show i * 7 = 49 by omega]
     clear HS hi hg hlt hx hde
     generalize (phRows mt (i * 7)).length = n9 at HS49 hn0 ⊢
     have hn9' : n9 = (phRows mt 49).length := hn0
     clear hn0
     obtain ⟨gs, cs, es, _, _, _⟩ := Kd.S_form HS49.out HP.out
     injection es with es e92 e93
     clear e92 e93
     subst es
     have HN9 := Aside0.mk hn9'
     have hsort := sortRR_calls gs n9 c2 (phRows mt 49) wr w.heap.size (fun _ => True) HS49.out (fun i => ((phRows mt 49).getD i []).getD 0 0) (fun i => ((phRows mt 49).getD i []).getD 1 0) (fun i h => phRows_two mt 49 i h) (fun i j hij hj => phRows_asc mt 49 i j hij (by rw [← hn9']; exact hj)) (by rw [hn9']; exact HP.out) (by have := phRows_le mt 49; omega)
     clear hn9'
     go_wp2_with (go_at_call 62; refine hsort.mono ?_; rintro e w9 ⟨rfl, hb⟩; have HB9 := Aside0.mk hb; clear hb)
     go_ret2
     exact ⟨_, rfl, Kd.S_below HS49.out HB9.out, below_then HB.out HB.out.size HB9.out⟩


/-! ### spec_hiParts: function 67 -/
def spec_hiParts.l0 : Nat → Int → ByteArray → List Int → List ByteArray → Int → Int → Option (List Int)
 | 0, _, _, _, _, _, _ => none
 | k + 1, x0, x1, x7, x18, x19, x20 => if x20 < x19 then (if 0 ≤ x20 then (if x20 < (x18.length : Int) then ((spec_hiOf.f x1 (rdOf ByteArray.empty x18 x20)).bind fun bt353 => (if 0 ≤ (wrap64 ((wrap64 (bt353.1 * (wrap64 (x0 + 1)))) + bt353.2)) then (if (wrap64 ((wrap64 (bt353.1 * (wrap64 (x0 + 1)))) + bt353.2)) < (x7.length : Int) then (spec_hiParts.l0 k x0 x1 (x7.set ((wrap64 ((wrap64 (bt353.1 * (wrap64 (x0 + 1)))) + bt353.2)) : Int).toNat (wrap64 ((rd x7 (wrap64 ((wrap64 (bt353.1 * (wrap64 (x0 + 1)))) + bt353.2))) + 1))) x18 x19 (wrap64 (x20 + 1))) else (none)) else (none))) else (none)) else (none)) else (some x7)
def spec_hiParts.f (k : Nat) (a0 : Int) (a1 : ByteArray) (l2 : List ByteArray) : Option (List Int) := if 0 ≤ (wrap64 ((wrap64 (a0 + 1)) * (wrap64 (a0 + 1)))) then (if (wrap64 ((wrap64 (a0 + 1)) * (wrap64 (a0 + 1))) : Int).toNat ≤ 35184372088832 then (spec_hiParts.l0 k a0 a1 (List.replicate (wrap64 ((wrap64 (a0 + 1)) * (wrap64 (a0 + 1))) : Int).toNat 0) l2 (l2.length : Int) 0) else (none)) else (none)
theorem spec_hiParts.mono_l : ∀ k, (∀ y0 y1 y2 y3 y4 y5, LeO (spec_hiParts.l0 k y0 y1 y2 y3 y4 y5) (spec_hiParts.l0 (k + 1) y0 y1 y2 y3 y4 y5))
 | 0 => fun _ _ _ _ _ _ r h => by simp [spec_hiParts.l0] at h
 | k + 1 => by
  have ih0 := spec_hiParts.mono_l k
  ·intro y0 y1 y2 y3 y4 y5
   unfold spec_hiParts.l0
   repeat' first
   | (with_reducible exact ih0 _ _ _ _ _ _)
   | (with_reducible exact LeO.refl _)
   | (with_reducible exact LeO.none _)
   | (with_reducible refine LeO.ite ?_ ?_)
   | (with_reducible refine LeO.bind ?_ (fun _ => ?_))
   | exact ih0 _ _ _ _ _ _
   | exact LeO.none _
   | refine LeO.ite ?_ ?_
   | refine LeO.bind ?_ (fun _ => ?_)
theorem spec_hiParts.mono : ∀ a0 a1 a2 k, LeO (spec_hiParts.f k a0 a1 a2) (spec_hiParts.f (k + 1) a0 a1 a2) := by
 intro a0 a1 a2 k
 have ih0 := spec_hiParts.mono_l k
 unfold spec_hiParts.f
 repeat' first
   | (with_reducible exact ih0 _ _ _ _ _ _)
   | (with_reducible exact LeO.refl _)
   | (with_reducible exact LeO.none _)
   | (with_reducible refine LeO.ite ?_ ?_)
   | (with_reducible refine LeO.bind ?_ (fun _ => ?_))
   | exact ih0 _ _ _ _ _ _
   | exact LeO.none _
   | refine LeO.ite ?_ ?_
   | refine LeO.bind ?_ (fun _ => ?_)
set_option maxHeartbeats 8000000 in
set_option maxRecDepth 100000 in
theorem spec_hiParts.calls (k : Nat) (a0 : Int) (a1 : ByteArray) (A2 : Option Addr) (c2 : Nat) (l2 : List ByteArray) (r : List Int) (w : World) (hr2 : Kd.C Kd.string w A2 l2.length l2) (hc2 : l2.length ≤ c2) (h : spec_hiParts.f k a0 a1 l2 = some r) :
  Calls Tryz.prog 67 #[.int .i64 a0, .string a1, .slice A2 l2.length c2] w fun e w' => ∃ v0_ : Value, e = .returned (v0_) ∧ Kd.R (Kd.int .i64) 3 w' w.heap.size (fun _ => True) v0_ r ∧ Below w.heap.size w w' := by
 have HR2 := Aside0.mk hr2
 have HC2 := Aside0.mk hc2
 clear hr2 hc2
 have HB := Aside0.mk (Below.refl w.heap.size w)
 have H : (if 0 ≤ (wrap64 ((wrap64 (a0 + 1)) * (wrap64 (a0 + 1)))) then (if (wrap64 ((wrap64 (a0 + 1)) * (wrap64 (a0 + 1))) : Int).toNat ≤ 35184372088832 then (spec_hiParts.l0 k a0 a1 (List.replicate (wrap64 ((wrap64 (a0 + 1)) * (wrap64 (a0 + 1))) : Int).toNat 0) l2 (l2.length : Int) 0) else (none)) else (none)) = some r := h
 clear h
 obtain ⟨ji4, hji4⟩ : ∃ j_ : Int, (wrap64 ((wrap64 (a0 + 1)) * (wrap64 (a0 + 1)))) = j_ := ⟨_, rfl⟩
 replace H : (if 0 ≤ (ji4) then (if (ji4 : Int).toNat ≤ 35184372088832 then (spec_hiParts.l0 k a0 a1 (List.replicate (ji4 : Int).toNat 0) l2 (l2.length : Int) 0) else (none)) else (none)) = some r := by first | (rw [hji4] at H; exact H) | (simp only [hji4] at H ⊢; exact H)
 have hji4w : (IntKind.i64.wrap ((wrap64 (a0 + 1)) * (wrap64 (a0 + 1)))) = ji4 := (i64_w _).trans hji4
 by_cases c5 : 0 ≤ (ji4)
 ·rw [if_pos c5] at H
  have c5b0 := eq_true c5
  have c5b1 : decide (0 ≤ (ji4)) = true := decide_eq_true c5
  clear c5
  by_cases c6 : (ji4 : Int).toNat ≤ 35184372088832
  ·rw [if_pos c6] at H
   have c6b0 := eq_true c6
   have c6b1 : decide ((ji4 : Int).toNat ≤ 35184372088832) = true := decide_eq_true c6
   clear c6
   obtain ⟨y349, hy349⟩ : ∃ y_ : List Int, y_ = (List.replicate (ji4 : Int).toNat 0) := ⟨_, rfl⟩
   replace H : (spec_hiParts.l0 k a0 a1 y349 l2 (l2.length : Int) 0) = some r := by first | (rw [hy349]; with_reducible exact H) | (have H2_ := (Option.bind_some _ _).symm.trans H; rw [hy349]; with_reducible exact H2_) | (have H2_ := (Option.bind_some _ _).symm.trans H; with_reducible exact H2_) | with_reducible exact H | (rw [hy349]; exact H) | exact H
   have Ny349 := Aside0.mk hy349
   clear hy349
   have H' := Aside0.mk H
   clear H
   go_enter Tryz.func67, Tryz.ntmps67
   go_wp2_with (first | ((with_reducible refine gate_dst (N := 17) rfl ?_); refine Kd.R_make (Kd.int .i64) _ 3 rfl (N := 17) rfl 55 _ _ rfl ji4 rfl rfl Tryz.underlying55 (.int .i64 0) 8 info3 rfl (by decide) (by omega) 0 (ok := fun _ => True) (okp := fun _ => True) rfl (fun _ hk => hk) trivial (oD) (Nat.le_trans (Nat.mul_le_mul_right _ (oD : ji4.toNat ≤ 35184372088832)) (by omega)) (Below.refl _ _) (Nat.le_refl _) ?_; intro v350 w7 ho8 hb hg_ hnew_; clear hg_ hnew_; (first | rw [← Ny349.out] at ho8 | (simp only [Int.reduceToNat] at ho8; rw [← Ny349.out] at ho8)); have n0_ := Aside0.mk (Kd.R_lower ho8 (below_size bB)); have n1_ := Aside0.mk (below_step bB hb); clear HB; have HO351 := n0_; have HB := n1_; clear n0_ n1_; clear hb ho8))
   go_loopg [20] k (fun kq v20 w' => ∃ (x7_1 : List Int) (x20_1 : Int), v20 = .int .i64 x20_1 ∧ Aside0 (spec_hiParts.l0 kq a0 a1 x7_1 l2 (l2.length : Int) x20_1 = some r) ∧ Aside0 (kq ≤ k) ∧ Aside0 (Kd.R (Kd.int .i64) 3 w' w.heap.size (fun _ => True) v350 x7_1) ∧ Aside0 (Below w.heap.size w w'))
   case atStart => exact ⟨(y349), (0), fR, H', ⟨Nat.le_refl _⟩, ⟨by (with_reducible repeat (first | apply Kd.R_alloc | apply Kd.R_drewN | apply Kd.R_drew)); exact HO351.out⟩, ⟨bB⟩⟩
   case round =>
    clear H'
    try clear c2
    try clear p2
    try clear c5
    try clear c5b0
    try clear c5b1
    try clear c6
    try clear c6b0
    try clear c6b1
    try clear p6
    obtain ⟨x7_1, x20_1, rfl, HA, HK1, HO_7, HB⟩ := hrel
    cases gk with
    | zero => exact absurd HA.out (by simp [spec_hiParts.l0])
    | succ k1 =>
     have H := HA.out
     clear HA
     simp only [spec_hiParts.l0] at H
     by_cases c9 : x20_1 < (l2.length : Int)
     ·rw [if_pos c9] at H
      have c9b0 : decide (x20_1 < (l2.length : Int)) = true := decide_eq_true c9
      clear c9
      by_cases c10 : 0 ≤ x20_1
      ·rw [if_pos c10] at H
       have c10b0 : decide (0 ≤ x20_1) = true := decide_eq_true c10
       clear c10
       by_cases c11 : x20_1 < (l2.length : Int)
       ·rw [if_pos c11] at H
        have c11b0 : decide (x20_1 < (l2.length : Int)) = true := decide_eq_true c11
        clear c11
        replace H := Option.bind_eq_some_iff.mp H
        obtain ⟨⟨t353, t354⟩, A120, H⟩ := H
        replace H : (if 0 ≤ (wrap64 ((wrap64 (t353 * (wrap64 (a0 + 1)))) + t354)) then (if (wrap64 ((wrap64 (t353 * (wrap64 (a0 + 1)))) + t354)) < (x7_1.length : Int) then (spec_hiParts.l0 k1 a0 a1 (x7_1.set ((wrap64 ((wrap64 (t353 * (wrap64 (a0 + 1)))) + t354)) : Int).toNat (wrap64 ((rd x7_1 (wrap64 ((wrap64 (t353 * (wrap64 (a0 + 1)))) + t354))) + 1))) l2 (l2.length : Int) (wrap64 (x20_1 + 1))) else (none)) else (none)) = some r := H
        have A12 := Aside0.mk A120
        clear A120
        obtain ⟨ji13, hji13⟩ : ∃ j_ : Int, (wrap64 ((wrap64 (t353 * (wrap64 (a0 + 1)))) + t354)) = j_ := ⟨_, rfl⟩
        replace H : (if 0 ≤ (ji13) then (if (ji13) < (x7_1.length : Int) then (spec_hiParts.l0 k1 a0 a1 (x7_1.set ((ji13) : Int).toNat (wrap64 ((rd x7_1 (ji13)) + 1))) l2 (l2.length : Int) (wrap64 (x20_1 + 1))) else (none)) else (none)) = some r := by first | (rw [hji13] at H; exact H) | (simp only [hji13] at H ⊢; exact H)
        (try rw [hji13] at A12)
        have hji13w : (IntKind.i64.wrap ((wrap64 (t353 * (wrap64 (a0 + 1)))) + t354)) = ji13 := (i64_w _).trans hji13
        by_cases c14 : 0 ≤ (ji13)
        ·rw [if_pos c14] at H
         have c14b0 : decide (0 ≤ (ji13)) = true := decide_eq_true c14
         clear c14
         by_cases c15 : (ji13) < (x7_1.length : Int)
         ·rw [if_pos c15] at H
          have c15b0 : decide ((ji13) < (x7_1.length : Int)) = true := decide_eq_true c15
          clear c15
          obtain ⟨y356, hy356⟩ : ∃ y_ : List Int, y_ = (x7_1.set ((ji13) : Int).toNat (wrap64 ((rd x7_1 (ji13)) + 1))) := ⟨_, rfl⟩
          replace H : (spec_hiParts.l0 k1 a0 a1 y356 l2 (l2.length : Int) (wrap64 (x20_1 + 1))) = some r := by first | (rw [hy356]; with_reducible exact H) | (have H2_ := (Option.bind_some _ _).symm.trans H; rw [hy356]; with_reducible exact H2_) | (have H2_ := (Option.bind_some _ _).symm.trans H; with_reducible exact H2_) | with_reducible exact H | (rw [hy356]; exact H) | exact H
          have Ny356 := Aside0.mk hy356
          clear hy356
          have H' := Aside0.mk H
          clear H
          have p352 : 0 ≤ (x20_1 : Int) := oD
          have q352 : x20_1 < (l2.length : Int) := oD
          obtain ⟨ad352, e352, hx352_0⟩ := Kd.at_string HR2.out x20_1 p352 q352
          cases e352
          replace hx352_0 := (HB.out.cell (World.block_lt_of_cell? w _ hx352_0)).trans hx352_0
          replace p352 := eq_true p352
          replace q352 := eq_true q352
          go_wp2_with (first | ((with_reducible refine gate_callee (f := 75) rfl ?_); refine goesL_ (some 27) rfl rfl Tryz.func75 (by kernel_rfl) rfl #[.string a1, .string (rdOf ByteArray.empty l2 x20_1)] rfl lM ?_; (with_reducible refine (spec_hiOf.calls a1 (rdOf ByteArray.empty l2 x20_1) t353 t354 _ A12.out).mono ?_); rintro e w17 ⟨rfl, hb⟩; refine ⟨_, rfl, ?_⟩; have n0_ := Aside0.mk (Kd.R_below (by (with_reducible repeat (first | apply Kd.R_alloc | apply Kd.R_drewN | apply Kd.R_drew)); exact HO_7.out) hb); have n1_ := Aside0.mk (below_step bB hb); clear HO_7; clear HB; have HO_7 := n0_; have HB := n1_; clear n0_ n1_; (try clear hb); (try clear hb2); (try clear hk); (try clear hi); obtain ⟨Ao18, co18, eo18⟩ := Kd.R_slice HO_7.out; subst eo18; have p355 : 0 ≤ ((ji13) : Int) := oD; have q355 : (ji13) < (x7_1.length : Int) := oD; obtain ⟨ad355, e355, hx355_0⟩ := Kd.at_int (Kd.R_reads' HO_7.out).2.2 (ji13) p355 q355; cases e355; replace p355 := eq_true p355; replace q355 := eq_true q355; have p16 : 0 ≤ ((ji13) : Int) := oD; have q16 : ((ji13) : Int) < ((x7_1.length : Int) : Int) := oD; obtain ⟨go16, co16, eo16, gb16, gl16, cl16, HG16⟩ := Kd.R_form HO_7.out (by omega); (first | cases eo16 | (injection eo16 with ea_ en_ ec_; (first | subst ea_ | (injection ea_ with ea_; subst ea_)); subst ec_; clear en_)); have GB16 := Aside0.mk gb16; have GG16 := Aside0.mk HG16; clear gb16 gl16 HG16; (first | simp only [add_plain] at hx355_0 | skip); obtain ⟨hx16_0, hf16_0⟩ := Kd.R_celln 0 HO_7.out ((ji13) : Int) p16 q16; replace p16 := eq_true p16; replace q16 := eq_true q16; obtain ⟨hy19_, hz19_⟩ := Kd.R_celln 0 HO_7.out ((ji13) : Int) (oD) (oD); have HP19 := Kd.R_putg HO_7.out ((ji13) : Int) (wrap64 ((rd x7_1 (ji13)) + 1))) | ((with_reducible refine gate_store (t := 3) (p := 40) rfl ?_); refine store_event (t := 3) (p := 40) (v := ?vo_w20) (w1 := (w17.setCell ⟨go16, ((ji13) : Int).toNat, none⟩ (.int .i64 (wrap64 ((rd x7_1 (ji13)) + 1))))) ?hg ?ho ?hn ?hr ?_; (case ho => rfl); (case hg => rfl); (case hn => rfl); (case hr => first | (go_simp; done) | (go_simp; rfl)); intro w20 hw; have hg : w17.grownBy w20 (some go16) := (by rw [hw]; exact HP19.2); have hp_ : Kd.R (Kd.int .i64) 3 w20 w.heap.size (fun _ => True) (.slice (some ⟨go16, 0, none⟩) x7_1.length co18) y356 := (by rw [hw, Ny356.out]; exact HP19.1); clear HP19; have n0_ := Aside0.mk (hp_); have n1_ := Aside0.mk ((by rw [hw]; exact below_set (HB.out) GB16.out : Below w.heap.size w w20)); clear HO_7; clear HB; have HO_7 := n0_; have HB := n1_; clear n0_ n1_; clear hg hw hp_))
          go_roundg k1
          case measure => have := HK1.out; omega
          case rel => exact ⟨(y356), (wrap64 (x20_1 + 1)), fR, H', ⟨by have := HK1.out; omega⟩, ⟨by (with_reducible repeat (first | apply Kd.R_alloc | apply Kd.R_drewN | apply Kd.R_drew)); exact HO_7.out⟩, ⟨bB⟩⟩
         ·rw [if_neg c15] at H
          exact absurd H (by simp)
        ·rw [if_neg c14] at H
         exact absurd H (by simp)
       ·rw [if_neg c11] at H
        exact absurd H (by simp)
      ·rw [if_neg c10] at H
       exact absurd H (by simp)
     ·rw [if_neg c9] at H
      have c9b0 : decide (x20_1 < (l2.length : Int)) = false := decide_eq_false c9
      clear c9
      obtain rfl := Option.some.inj H
      go_wp2
      go_ret
      exact ⟨_, by first | rfl | (simp [errW_none, errW_some] <;> rfl) | (simp only [← hji4]; first | rfl | (simp [errW_none, errW_some] <;> rfl)) | (simp [*, errW_none, errW_some] <;> rfl), by (with_reducible repeat (first | apply Kd.R_alloc | apply Kd.R_drewN | apply Kd.R_drew)); exact HO_7.out, bB⟩
  ·rw [if_neg c6] at H
   exact absurd H (by simp)
 ·rw [if_neg c5] at H
  exact absurd H (by simp)

end Go.Proofs.YtcpnmiempaofdaaGreat.C
