-- Printed by hp.py, a program of this session: a machine's side of laws, out of the translation; Lean checks it.
import Derived.Shelf.SlSortCmp.NoneTotal
import Derived.Test.YtcpnmiempaofdaaGreatGx0
import Derived.Test.YtcpnmiempaofdaaGreatGx2
import Derived.Test.YtcpnmiempaofdaaGreatGx9
namespace Go.Proofs.YtcpnmiempaofdaaGreat.G
open Go.RowKit Go.Proofs.YtcpnmiempaofdaaGreatW.PrintWords Go.Proofs.YtcpnmiempaofdaaGreatW.PrintLast Go.Proofs.YtcpnmiempaofdaaGreatW.PrintMore
attribute [local go_sem] max2_int min2_int max_two min_two max_three min_three max_four min_four   -- for this text's walks alone
set_option linter.unusedVariables false
set_option linter.unusedSimpArgs false

/-! ### impl_table: function 79 -/
/-- What one's own rows of three are: where they lie. -/
theorem rows_at (g n c : Nat) (rows : List (List Int)) (W : World) (base : Nat) (ok : Nat → Prop) (hS : Kd.S (Kd.slice 3 (Kd.int .i64)) 55 W base ok (.slice (some ⟨g, 0, none⟩) n c) rows) (P O : Nat → Int)
  (hrow : ∀ (i : Nat) (h : i < rows.length), rows[i] = [P i, O i, 1]) :
  ∃ (b cp : Fin n → Nat), (∀ i j, b i = b j → i = j) ∧ (∀ i, b i ≠ g ∧ base ≤ b i ∧ b i < W.heap.size) ∧ (∀ i, 3 ≤ cp i) ∧ (∀ i : Fin n, W.cell? ⟨g, i.val, none⟩ = some (.slice (some ⟨b i, 0, none⟩) 3 (cp i))) ∧
   (∀ i : Fin n, W.cell? ⟨b i, 0, none⟩ = some (.int .i64 (P i.val)) ∧ W.cell? ⟨b i, 1, none⟩ = some (.int .i64 (O i.val)) ∧ W.cell? ⟨b i, 2, none⟩ = some (.int .i64 1)) ∧ (∀ (i : Fin n) (x : Nat), W.frozen? ⟨b i, x, none⟩ = false) ∧ base ≤ g ∧ g < W.heap.size ∧ (∀ x, W.frozen? ⟨g, x, none⟩ = false) := by
 have hlen : n = rows.length := (Kd.S_reads' hS).1
 obtain ⟨f, hR⟩ := hS
 have hn : (rows.zipIdx).length = n := by rw [List.length_zipIdx, hlen]
 have hh : ∀ i : Fin n, ∃ bc : Nat × Nat, (bc.1 ≠ g ∧ base ≤ bc.1 ∧ bc.1 < W.heap.size ∧ f bc.1 = i.val) ∧ 3 ≤ bc.2 ∧ W.cell? ⟨g, i.val, none⟩ = some (.slice (some ⟨bc.1, 0, none⟩) 3 bc.2) ∧
   (W.cell? ⟨bc.1, 0, none⟩ = some (.int .i64 (P i.val)) ∧ W.cell? ⟨bc.1, 1, none⟩ = some (.int .i64 (O i.val)) ∧ W.cell? ⟨bc.1, 2, none⟩ = some (.int .i64 1)) ∧ ∀ x, W.frozen? ⟨bc.1, x, none⟩ = false := by
  intro i
  have hi := i.2
  obtain ⟨cs, hcl, hM, hcell⟩ := Kd.R_getA hR ([], 0) (i.val : Int) (by omega) (by omega)
  have hget : (rows.zipIdx).getD ((i.val : Int)).toNat ([], 0) = ([P i.val, O i.val, 1], i.val) := by
   rw [Int.toNat_natCast, List.getD_eq_getElem?_getD, List.getElem?_eq_getElem (by omega), Option.getD_some, List.getElem_zipIdx, Nat.zero_add, hrow i.val (by omega)]
  rw [hget] at hM
  obtain ⟨v, rfl, hR2⟩ := hM
  obtain ⟨b, cp, ev, hb1, hb2, cells, hb3⟩ := Kd.R_form hR2 (by simp)
  subst ev
  have hC := (Kd.R_reads' hR2).2.2
  have hcap := (Kd.R_reads' hR2).2.1
  obtain ⟨a0, e0, c0⟩ := Kd.at_int hC 0 (by omega) (by simp)
  obtain ⟨a1, e1, c1⟩ := Kd.at_int hC 1 (by omega) (by simp)
  obtain ⟨a2, e2, c2⟩ := Kd.at_int hC 2 (by omega) (by simp)
  injection e0 with e0
  injection e1 with e1
  injection e2 with e2
  subst e0 e1 e2
  have hown := hR2.1 b rfl
  have hne : b ≠ g := fun he => hown.1.2 (by rw [he]; rfl)
  have hc := hcell 0 _ rfl
  rw [show (Kd.tag f (Kd.slice 3 (Kd.int .i64))).sz = 1 from rfl, Nat.mul_one, Nat.add_zero, Int.toNat_natCast, add_plain] at hc
  rw [add_plain] at c0 c1 c2
  exact ⟨(b, cp), ⟨hne, hb1, hb2, hown.2⟩, hcap, hc, ⟨c0, c1, c2⟩, fun x => blk_frozen hb3 x⟩
 obtain ⟨F, hF⟩ := Classical.axiomOfChoice hh
 by_cases h0 : 0 < n
 ·obtain ⟨g', cap', ev, hg1, hg2, cells, hg3⟩ := Kd.R_form hR (by omega)
  injection ev with ea _ _
  injection ea with ea
  injection ea with ea _ _
  subst ea
  exact ⟨fun i => (F i).1, fun i => (F i).2, fun i j h => Fin.ext (by rw [← (hF i).1.2.2.2, ← (hF j).1.2.2.2]; exact congrArg f h), fun i => ⟨(hF i).1.1, (hF i).1.2.1, (hF i).1.2.2.1⟩, fun i => (hF i).2.1, fun i => (hF i).2.2.1, fun i => (hF i).2.2.2.1, fun i x => (hF i).2.2.2.2 x, hg1, hg2, fun x => blk_frozen hg3 x⟩
 ·have hz : ∀ i : Fin n, False := fun i => h0 (Nat.lt_of_le_of_lt (Nat.zero_le _) i.2)
  have hg : base ≤ g ∧ g < W.heap.size := ⟨Kd.R_base hR g rfl, Kd.R_lt hR g rfl⟩
  obtain ⟨cells, hg3⟩ := Kd.R_typed hR g rfl
  exact ⟨fun i => 0, fun i => 0, fun i => (hz i).elim, fun i => (hz i).elim, fun i => (hz i).elim, fun i => (hz i).elim, fun i => (hz i).elim, fun i => (hz i).elim, hg.1, hg.2, fun x => blk_frozen hg3 x⟩
def lexLt (x y : Int × Int) : Bool := decide (x.1 < y.1 ∨ x.1 = y.1 ∧ x.2 < y.2)
theorem lexI_neg (p o q r : Int) : decide (orI (Lib.compareInt p q) (Lib.compareInt o r) < 0) = lexLt (p, o) (q, r) := by
 unfold lexLt orI Lib.compareInt
 apply decide_eq_decide.mpr
 simp only
 constructor
 ·intro h
  split at h <;> split at h <;> (try split at h) <;> (try split at h) <;> omega
 ·intro h
  split <;> split <;> (try split) <;> (try split) <;> omega
set_option maxHeartbeats 4000000 in
theorem sortRP_calls (g n c : Nat) (W : World) (b cp : Fin n → Nat) (P O : Nat → Int) (h0 : 0 < n) (hn : n ≤ 1000) (hb : ∀ i, b i ≠ g ∧ b i < W.heap.size) (hg : g < W.heap.size) (hgf : ∀ x, W.frozen? ⟨g, x, none⟩ = false)
  (hh : ∀ i : Fin n, W.cell? ⟨g, i.val, none⟩ = some (.slice (some ⟨b i, 0, none⟩) 3 (cp i)))
  (hc : ∀ i : Fin n, W.cell? ⟨b i, 0, none⟩ = some (.int .i64 (P i.val)) ∧ W.cell? ⟨b i, 1, none⟩ = some (.int .i64 (O i.val)) ∧ W.cell? ⟨b i, 2, none⟩ = some (.int .i64 1)) :
  Calls Tryz.prog 62 #[.slice (some ⟨g, 0, none⟩) n c, .func (.func 113) #[] #[]] W fun e w' => e = .returned (.tuple #[]) ∧ ∃ es : List (Fin n), es.length = n ∧ es.Nodup ∧
   (es.Perm (List.finRange n)) ∧ es.Pairwise (fun x y => lexLt (P y.val, O y.val) (P x.val, O x.val) = false) ∧ (∀ (k : Nat) (hk : k < es.length), w'.cell? ⟨g, k, none⟩ = some (.slice (some ⟨b es[k], 0, none⟩) 3 (cp es[k]))) ∧ W.grownBy w' (some g) ∧ (∀ x, w'.frozen? ⟨g, x, none⟩ = false) := by
 haveI : Inhabited (Fin n) := ⟨⟨0, h0⟩⟩
 obtain ⟨f, hf⟩ : ∃ f : Fin n → Value, f = fun i => .slice (some ⟨b i, 0, none⟩) 3 (cp i) := ⟨_, rfl⟩
 obtain ⟨d, hd⟩ : ∃ d : Array (Fin n), d = Array.ofFn (fun i => i) := ⟨_, rfl⟩
 have hds : d.size = n := by rw [hd, Array.size_ofFn]
 have hdi : ∀ (j : Nat) (h : j < n), d[j]! = ⟨j, h⟩ := by
  intro j h
  rw [getElem!_pos d j (by omega)]
  subst hd
  simp
 have key : ∀ x y : Fin n, ltOf (fun x y : Fin n => orI (Lib.compareInt (P x.val) (P y.val)) (Lib.compareInt (O x.val) (O y.val))) x y = lexLt (P x.val, O x.val) (P y.val, O y.val) := fun x y => lexI_neg _ _ _ _
 have hO : Sort.SWO (ltOf (fun x y : Fin n => orI (Lib.compareInt (P x.val) (P y.val)) (Lib.compareInt (O x.val) (O y.val)))) := by
  refine ⟨fun x => ?_, fun x y z h1 h2 => ?_, fun x y z h1 h2 => ?_⟩
  ·rw [key]; unfold lexLt; exact decide_eq_false (by simp only; omega)
  ·rw [key] at h1 h2 ⊢
   unfold lexLt at *
   have h1 := of_decide_eq_true h1
   have h2 := of_decide_eq_true h2
   exact decide_eq_true (by simp only at *; omega)
  ·rw [key] at h1 h2 ⊢
   unfold lexLt at *
   have h1 := of_decide_eq_false h1
   have h2 := of_decide_eq_false h2
   exact decide_eq_false (by simp only at *; omega)
 have h1 : OneCell f := fun x => by rw [hf]; rfl
 have hHw : Sort.Holds f W g 0 d := by
  intro j hj
  rw [hds] at hj
  rw [hdi j hj, Nat.zero_add, hf]
  exact ⟨hh ⟨j, hj⟩, hgf j⟩
 have hcmp : CmpLays1 Tryz.prog 113 #[] f (fun x y : Fin n => orI (Lib.compareInt (P x.val) (P y.val)) (Lib.compareInt (O x.val) (O y.val))) g 0 d.size W := by
  intro m os dk hs x y
  have mv : ∀ (q j : Nat) (v : Value), q ≠ g → q < W.heap.size → W.cell? ⟨q, j, none⟩ = some v → (sortWorld f W g 0 m dk os).cell? ⟨q, j, none⟩ = some v := by
   intro q j v hne hlt hc
   unfold sortWorld
   rw [Sort.cell?_grow _ _ _ (by simpa [Sort.putRow, Sort.mapBlock, Sort.ahead] using hlt), Sort.cell?_putRow_other _ _ _ _ _ _ (.inl hne)]
   exact hc
  obtain ⟨x0, x1, x2⟩ := hc x
  obtain ⟨y0, y1, y2⟩ := hc y
  have hx := hb x
  have hy := hb y
  have ea : (#[f x, f y] ++ #[] : Array Value) = #[.slice (some ⟨b x, 0, none⟩) 3 (cp x), .slice (some ⟨b y, 0, none⟩) 3 (cp y)] := by rw [hf]; rfl
  rw [ea]
  refine (cmp3_calls (b x) (b y) (cp x) (cp y) (P x.val) (O x.val) (P y.val) (O y.val) _ (mv _ 0 _ hx.1 hx.2 x0) (mv _ 1 _ hx.1 hx.2 x1) (mv _ 2 _ hx.1 hx.2 x2) (mv _ 0 _ hy.1 hy.2 y0) (mv _ 1 _ hy.1 hy.2 y1) (mv _ 2 _ hy.1 hy.2 y2)).mono ?_
  rintro e w' ⟨rfl, rfl⟩
  exact ⟨rfl, 0, #[], by rw [Sort.grow_empty]; rfl⟩
 have hmain := Any.slices_SortFunc sortL f h1 _ hO 113 #[] g 0 c d W (enters_of Tryz.func113 (by kernel_rfl) rfl) hcmp hHw hg (by omega)
 rw [hds] at hmain
 refine hmain.mono ?_
 rintro e w' ⟨rfl, d', k, os, hperm, hsort, rfl⟩
 obtain ⟨hsz, _, hp⟩ := hperm
 have hs' : d'.size = n := hsz.trans hds
 have e1 : d'.extract 0 n = d' := (congrArg (fun z => d'.extract 0 z) hs'.symm).trans Array.extract_size
 have e2 : d.extract 0 n = d := (congrArg (fun z => d.extract 0 z) hds.symm).trans Array.extract_size
 rw [e1, e2] at hp
 have hdl : d.toList = List.finRange n := by rw [hd]; simp [List.finRange, Array.toList_ofFn]
 have hl : d'.toList.length = n := by simpa using hs'
 refine ⟨rfl, d'.toList, hl, ?_, hdl ▸ hp, ?_, ?_, ?_, ?_⟩
 ·exact (hdl ▸ hp : d'.toList.Perm (List.finRange n)).nodup_iff.mpr (List.nodup_finRange n)
 ·rw [List.pairwise_iff_getElem]
  intro i j hi hj hij
  have hi' : i < d'.size := by omega
  have hj' : j < d'.size := by omega
  have := hsort i j (Nat.zero_le _) hij (by omega)
  rw [getElem!_pos d' j hj', getElem!_pos d' i hi', key] at this
  simpa using this
 ·intro q hq
  have hq' : q < d'.size := by omega
  unfold sortWorld
  rw [Sort.cell?_grow _ _ _ (by simpa [Sort.putRow, Sort.mapBlock, Sort.ahead] using hg)]
  have h2 := Sort.cell?_putRow f (Sort.ahead W k) g 0 d d' (show Sort.Holds f (Sort.ahead W k) g 0 d from hHw) (by omega) q hq'
  rw [Nat.zero_add, getElem!_pos d' q hq'] at h2
  rw [h2, hf]
  simp
 ·unfold sortWorld
  refine ⟨rfl, rfl, rfl, by simp [Sort.grow, Sort.putRow, Sort.mapBlock, Sort.ahead], fun q hq hne => ?_⟩
  rw [Sort.heap_grow_old _ _ (by simpa [Sort.putRow, Sort.mapBlock, Sort.ahead] using hq)]
  have : g ≠ q := fun he => hne (by rw [he])
  simp [Sort.putRow, Sort.mapBlock, Sort.ahead, Array.getElem?_modify, this]
 ·intro x
  unfold sortWorld
  rw [Sort.frozen?_grow _ _ _ (by simpa [Sort.putRow, Sort.mapBlock, Sort.ahead] using hg), Sort.frozen?_putRow]
  exact hgf x
/-- The hints of a guess for codes, in the codes' order. -/
def hintsL (k : Nat) (guess : ByteArray) : List ByteArray → Option (List (Int × Int))
 | [] => some []
 | c :: cs => (impl_hint.f k guess c).bind fun r => (hintsL k guess cs).map (fun l => r :: l)
theorem hintsL_mono (k : Nat) (guess : ByteArray) : ∀ l, LeO (hintsL k guess l) (hintsL (k + 1) guess l)
 | [] => LeO.refl _
 | c :: cs => LeO.bind (impl_hint.mono _ _ _) (fun r => LeO.map _ (hintsL_mono k guess cs))
theorem hintsL_all (k : Nat) (guess : ByteArray) : ∀ (l : List ByteArray) (hs : List (Int × Int)), hintsL k guess l = some hs → hs.length = l.length ∧ ∀ i : Nat, i < l.length → impl_hint.f k guess (l.getD i ByteArray.empty) = some (hs.getD i (0, 0))
 | [], hs, h => by
  obtain rfl := Option.some.inj h
  exact ⟨rfl, fun i hi => absurd hi (by simp)⟩
 | c :: cs, hs, h => by
  rw [hintsL] at h
  obtain ⟨r, hr, h⟩ := Option.bind_eq_some_iff.mp h
  obtain ⟨l', hl', rfl⟩ := Option.map_eq_some_iff.mp h
  obtain ⟨h1, h2⟩ := hintsL_all k guess cs l' hl'
  refine ⟨by simp [h1], fun i hi => ?_⟩
  cases i with
  | zero => simpa using hr
  | succ i => simpa using h2 i (by simpa using hi)
def row1 (x : Int × Int) : List Int := [x.1, x.2, 1]
theorem take_row1 (hs : List (Int × Int)) (i : Nat) (p o : Int) (h : i < hs.length) (e : (p, o) = hs.getD i (0, 0)) : (hs.take (i + 1)).map row1 = (hs.take i).map row1 ++ [[p, o, 1]] := by
 rw [List.take_succ_eq_append_getElem h, List.map_append]
 have : hs[i] = (p, o) := by rw [e, List.getD_eq_getElem?_getD, List.getElem?_eq_getElem h]; rfl
 rw [this]; rfl
theorem row1_at (hs : List (Int × Int)) (i : Nat) (h : i < (hs.map row1).length) : (hs.map row1)[i] = [(hs.getD i (0, 0)).1, (hs.getD i (0, 0)).2, 1] := by
 rw [List.getElem_map]
 have h' : i < hs.length := by simpa using h
 rw [List.getD_eq_getElem?_getD, List.getElem?_eq_getElem h']
 rfl
def lexLe (x y : Int × Int) : Bool := !lexLt y x
def tabStep {α : Type} (key : α → Int × Int) (acc : List (α × Int)) (x : α) : List (α × Int) :=
 match acc.getLast? with
 | some (y, c) => if key y = key x then acc.dropLast ++ [(y, c + 1)] else acc ++ [(x, 1)]
 | none => [(x, 1)]
def tabOf {α : Type} (key : α → Int × Int) (l : List α) : List (α × Int) := l.foldl (tabStep key) []
def tabP (hs : List (Int × Int)) : List (List Int) := (tabOf (fun x => x) (hs.mergeSort lexLe)).map fun t => [t.1.1, t.1.2, t.2]
def impl_table.f (k : Nat) (codes : List ByteArray) (guess : ByteArray) : Option (List (List Int)) :=
 if codes.length ≤ 1000 then (hintsL k guess codes).map tabP else none
theorem impl_table.mono : ∀ a0 a1 k, LeO (impl_table.f k a0 a1) (impl_table.f (k + 1) a0 a1) := fun a0 a1 k => LeO.ite (LeO.map _ (hintsL_mono k a1 a0)) (LeO.refl _)
theorem tabStep_map {α : Type} (key : α → Int × Int) (acc : List (α × Int)) (x : α) : (tabStep key acc x).map (fun t => (key t.1, t.2)) = tabStep (fun z => z) (acc.map (fun t => (key t.1, t.2))) (key x) := by
 unfold tabStep
 rw [List.getLast?_map]
 cases acc.getLast? with
 | none => simp
 | some t =>
  obtain ⟨y, c⟩ := t
  simp only [Option.map_some]
  by_cases h : key y = key x
  ·rw [if_pos h, if_pos h]; simp [List.map_dropLast, h]
  ·rw [if_neg h, if_neg h]; simp
theorem tabOf_map {α : Type} (key : α → Int × Int) (l : List α) : (tabOf key l).map (fun t => (key t.1, t.2)) = tabOf (fun z => z) (l.map key) := by
 unfold tabOf
 suffices h : ∀ acc : List (α × Int), (l.foldl (tabStep key) acc).map (fun t => (key t.1, t.2)) = (l.map key).foldl (tabStep (fun z => z)) (acc.map (fun t => (key t.1, t.2))) from h []
 induction l with
 | nil => intro acc; rfl
 | cons x xs ih => intro acc; simp only [List.foldl_cons, List.map_cons]; rw [ih, tabStep_map]
/-- The end of a state: its step adds one to the last, or puts a new one. -/
theorem tabOf_snoc {α : Type} (key : α → Int × Int) (l : List α) (x : α) : tabOf key (l ++ [x]) = tabStep key (tabOf key l) x := by
 unfold tabOf; rw [List.foldl_append]; rfl
theorem getLast_split {α : Type} : ∀ (l : List α) (x : α), l.getLast? = some x → l = l.dropLast ++ [x] := by
 intro l x h
 obtain ⟨ys, rfl⟩ := List.getLast?_eq_some_iff.mp h
 simp
theorem tabStep_sub {α : Type} (key : α → Int × Int) (acc : List (α × Int)) (x : α) (l : List α) (h : (acc.map (·.1)).Sublist l) : ((tabStep key acc x).map (·.1)).Sublist (l ++ [x]) := by
 unfold tabStep
 cases hl : acc.getLast? with
 | none =>
  simp only [List.map_cons, List.map_nil]
  exact List.sublist_append_right l [x]
 | some t =>
  obtain ⟨y, c⟩ := t
  have he : acc = acc.dropLast ++ [(y, c)] := (getLast_split _ _ hl)
  dsimp only
  by_cases hk : key y = key x
  ·rw [if_pos hk]
   have : ((acc.dropLast ++ [(y, c + 1)]).map (·.1)) = acc.map (·.1) := by
    conv => rhs; rw [he]
    simp
   rw [this]
   exact h.trans (List.sublist_append_left l [x])
  ·rw [if_neg hk, List.map_append]
   exact h.append (List.Sublist.refl _)
theorem tabOf_sub {α : Type} (key : α → Int × Int) (l : List α) : ((tabOf key l).map (·.1)).Sublist l := by
 suffices h : ∀ (xs : List α) (acc : List (α × Int)) (l0 : List α), (acc.map (·.1)).Sublist l0 → ((xs.foldl (tabStep key) acc).map (·.1)).Sublist (l0 ++ xs) by
  have := h l [] [] (List.Sublist.refl _)
  simpa [tabOf] using this
 intro xs
 induction xs with
 | nil => intro acc l0 h; simpa using h
 | cons x xs ih =>
  intro acc l0 h
  rw [List.foldl_cons, List.append_cons]
  exact ih _ _ (tabStep_sub key acc x l0 h)
/-- Sorting by a walk or by the list's own sort: one list. -/
theorem sorted_eq (l1 l2 : List (Int × Int)) (hp : l1.Perm l2) (hs : l1.Pairwise (fun x y => lexLt y x = false)) : l1 = l2.mergeSort lexLe := by
 have hle : ∀ a b : Int × Int, lexLe a b = true ↔ (a.1 < b.1 ∨ a.1 = b.1 ∧ a.2 ≤ b.2) := by
  intro a b
  unfold lexLe lexLt
  rw [Bool.not_eq_true', decide_eq_false_iff_not]
  omega
 have h2 : (l2.mergeSort lexLe).Pairwise (fun x y => lexLe x y = true) := List.pairwise_mergeSort (le := lexLe) (fun a b c h1 h2 => by rw [hle] at *; omega) (fun a b => by
  rw [Bool.or_eq_true, hle, hle]; omega) l2
 have h1 : l1.Pairwise (fun x y => lexLe x y = true) := hs.imp (fun {a b} h => by unfold lexLe; rw [h]; rfl)
 refine List.Perm.eq_of_pairwise (le := fun x y => lexLe x y = true) ?_ h1 h2 (hp.trans (List.mergeSort_perm l2 lexLe).symm)
 intro a b _ _ h3 h4
 rw [hle] at h3 h4
 exact Prod.ext (by omega) (by omega)
/-- What stands in the heap amid the second loop: the counted rows, and the rows still to come. -/
structure TabI {n : Nat} (g : Nat) (b cp : Fin n → Nat) (key : Fin n → Int × Int) (acc : List (Fin n × Int)) (rest : List (Fin n)) (j : Nat) (W : World) : Prop where
 done : ∀ (q : Nat) (x : Fin n) (c : Int), acc[q]? = some (x, c) → W.cell? ⟨g, q, none⟩ = some (.slice (some ⟨b x, 0, none⟩) 3 (cp x)) ∧ W.cell? ⟨b x, 2, none⟩ = some (.int .i64 c)
 todo : ∀ (q : Nat) (x : Fin n), rest[q]? = some x → W.cell? ⟨g, j + q, none⟩ = some (.slice (some ⟨b x, 0, none⟩) 3 (cp x)) ∧ W.cell? ⟨b x, 2, none⟩ = some (.int .i64 1)
 key : ∀ x : Fin n, W.cell? ⟨b x, 0, none⟩ = some (.int .i64 (key x).1) ∧ W.cell? ⟨b x, 1, none⟩ = some (.int .i64 (key x).2)
 room : ∀ q : Nat, q < n → (W.cell? ⟨g, q, none⟩).isSome = true
 fg : ∀ y, W.frozen? ⟨g, y, none⟩ = false
 fb : ∀ (x : Fin n) (y : Nat), W.frozen? ⟨b x, y, none⟩ = false
theorem TabI.drewN {n : Nat} {g : Nat} {b cp : Fin n → Nat} {key : Fin n → Int × Int} {acc : List (Fin n × Int)} {rest : List (Fin n)} {j : Nat} {W : World} (h : TabI g b cp key acc rest j W) (d : Nat) : TabI g b cp key acc rest j (W.drewN d) :=
 ⟨h.done, h.todo, h.key, h.room, h.fg, h.fb⟩
theorem cell_same {W : World} {a : Addr} (v : Value) (h : (W.cell? a).isSome = true) : (W.setCell a v).cell? a = some v := by
 exact World.cell?_setCell_same' W a v h
theorem TabI.put {n : Nat} {g : Nat} {b cp : Fin n → Nat} {key : Fin n → Int × Int} {acc : List (Fin n × Int)} {x : Fin n} {rest : List (Fin n)} {j : Nat} {W : World} (h : TabI g b cp key acc (x :: rest) j W)
  (hbg : ∀ x, b x ≠ g) (hl : acc.length ≤ j) (hj : j < n) :
  TabI g b cp key (acc ++ [(x, 1)]) rest (j + 1) (W.setCell ⟨g, acc.length, none⟩ (.slice (some ⟨b x, 0, none⟩) 3 (cp x))) := by
 have far : ∀ (z : Fin n) (y : Nat), (W.setCell ⟨g, acc.length, none⟩ (.slice (some ⟨b x, 0, none⟩) 3 (cp x))).cell? ⟨b z, y, none⟩ = W.cell? ⟨b z, y, none⟩ := fun z y => World.cell?_setCell_far _ _ _ _ (fun e => hbg z e.symm)
 have oth : ∀ q : Nat, q ≠ acc.length → (W.setCell ⟨g, acc.length, none⟩ (.slice (some ⟨b x, 0, none⟩) 3 (cp x))).cell? ⟨g, q, none⟩ = W.cell? ⟨g, q, none⟩ := fun q hq => World.cell?_setCell_other _ _ _ _ (fun e => hq (congrArg Addr.off e).symm)
 have same := cell_same (W := W) (a := ⟨g, acc.length, none⟩) (.slice (some ⟨b x, 0, none⟩) 3 (cp x)) (h.room _ (by omega))
 refine ⟨fun q z c hz => ?_, fun q z hz => ?_, fun z => ?_, fun q hq => ?_, fun y => ?_, fun z y => ?_⟩
 ·by_cases hq : q < acc.length
  ·rw [List.getElem?_append_left hq] at hz
   rw [far, oth q (by omega)]
   exact h.done q z c hz
  ·rw [List.getElem?_append_right (by omega)] at hz
   have hq0 : q = acc.length := by
    by_cases h1 : q - acc.length = 0
    ·omega
    ·obtain ⟨m, hm⟩ : ∃ m, q - acc.length = m + 1 := ⟨q - acc.length - 1, by omega⟩
     rw [hm] at hz
     simp at hz
   subst hq0
   simp only [Nat.sub_self, List.getElem?_cons_zero, Option.some.injEq, Prod.mk.injEq] at hz
   obtain ⟨rfl, rfl⟩ := hz
   rw [far]
   exact ⟨same, (h.todo 0 x rfl).2⟩
 ·rw [far, oth (j + 1 + q) (by omega)]
  have := h.todo (q + 1) z (by simpa using hz)
  rw [show j + 1 + q = j + (q + 1) by omega]
  exact this
 ·rw [far, far]; exact h.key z
 ·by_cases hq' : q = acc.length
  ·rw [hq', same]; rfl
  ·rw [oth q hq']; exact h.room q hq
 ·rw [World.frozen?_setCell]; exact h.fg y
 ·rw [World.frozen?_setCell]; exact h.fb z y
theorem TabI.inc {n : Nat} {g : Nat} {b cp : Fin n → Nat} {key : Fin n → Int × Int} {acc : List (Fin n × Int)} {y : Fin n} {c : Int} {x : Fin n} {rest : List (Fin n)} {j : Nat} {W : World} (h : TabI g b cp key (acc ++ [(y, c)]) (x :: rest) j W)
  (hbg : ∀ x, b x ≠ g) (hinj : ∀ i j, b i = b j → i = j) (hn1 : ∀ t ∈ acc, t.1 ≠ y) (hn2 : y ∉ x :: rest) :
  TabI g b cp key (acc ++ [(y, c + 1)]) rest (j + 1) (W.setCell ⟨b y, 2, none⟩ (.int .i64 (c + 1))) := by
 have far : ∀ (q : Nat), (W.setCell ⟨b y, 2, none⟩ (.int .i64 (c + 1))).cell? ⟨g, q, none⟩ = W.cell? ⟨g, q, none⟩ := fun q => World.cell?_setCell_far _ _ _ _ (fun e => hbg y e)
 have oth : ∀ (z : Fin n) (q : Nat), (z ≠ y ∨ q ≠ 2) → (W.setCell ⟨b y, 2, none⟩ (.int .i64 (c + 1))).cell? ⟨b z, q, none⟩ = W.cell? ⟨b z, q, none⟩ := fun z q hq => World.cell?_setCell_other _ _ _ _ (fun e => by
  rcases hq with hq | hq
  ·exact hq (hinj _ _ (congrArg Addr.block e).symm)
  ·exact hq (congrArg Addr.off e).symm)
 have hy := h.done acc.length y c (by simp)
 have same := cell_same (W := W) (a := ⟨b y, 2, none⟩) (.int .i64 (c + 1)) (by rw [hy.2]; rfl)
 refine ⟨fun q z d hz => ?_, fun q z hz => ?_, fun z => ?_, fun q hq => ?_, fun z => ?_, fun z q => ?_⟩
 ·by_cases hq : q < acc.length
  ·rw [List.getElem?_append_left hq] at hz
   have hne : z ≠ y := hn1 (z, d) (List.mem_of_getElem? hz)
   rw [far, oth z 2 (.inl hne)]
   exact h.done q z d (by rw [List.getElem?_append_left hq]; exact hz)
  ·rw [List.getElem?_append_right (by omega)] at hz
   have hq0 : q = acc.length := by
    by_cases h1 : q - acc.length = 0
    ·omega
    ·obtain ⟨m, hm⟩ : ∃ m, q - acc.length = m + 1 := ⟨q - acc.length - 1, by omega⟩
     rw [hm] at hz
     simp at hz
   subst hq0
   simp only [Nat.sub_self, List.getElem?_cons_zero, Option.some.injEq, Prod.mk.injEq] at hz
   obtain ⟨rfl, rfl⟩ := hz
   rw [far]
   exact ⟨hy.1, same⟩
 ·have hne : z ≠ y := fun e => hn2 (by rw [← e]; exact List.mem_cons_of_mem _ (List.mem_of_getElem? hz))
  rw [far, oth z 2 (.inl hne)]
  have := h.todo (q + 1) z (by simpa using hz)
  rw [show j + 1 + q = j + (q + 1) by omega]
  exact this
 ·rw [oth z 0 (.inr (by decide)), oth z 1 (.inr (by decide))]; exact h.key z
 ·rw [far]; exact h.room q hq
 ·rw [World.frozen?_setCell]; exact h.fg z
 ·rw [World.frozen?_setCell]; exact h.fb z q
theorem grown_cell {W w' : World} {g : Nat} (h : W.grownBy w' (some g)) {q : Nat} (hq : q < W.heap.size) (hne : q ≠ g) (y : Nat) : w'.cell? ⟨q, y, none⟩ = W.cell? ⟨q, y, none⟩ :=
 World.cell?_of_block (h.block q hq (fun e => hne (by injection e)))
theorem grown_frozen {W w' : World} {g : Nat} (h : W.grownBy w' (some g)) {q : Nat} (hq : q < W.heap.size) (hne : q ≠ g) (y : Nat) : w'.frozen? ⟨q, y, none⟩ = W.frozen? ⟨q, y, none⟩ :=
 World.frozen?_of_block (h.block q hq (fun e => hne (by injection e)))
theorem tabOf_cnt {α : Type} (key : α → Int × Int) (l : List α) : ∀ t ∈ tabOf key l, 1 ≤ t.2 ∧ t.2 ≤ (l.length : Int) := by
 suffices h : ∀ (xs : List α) (acc : List (α × Int)) (k : Nat), (∀ t ∈ acc, 1 ≤ t.2 ∧ t.2 ≤ (k : Int)) → ∀ t ∈ xs.foldl (tabStep key) acc, 1 ≤ t.2 ∧ t.2 ≤ ((k + xs.length : Nat) : Int) by
  intro t ht
  have := h l [] 0 (by simp) t ht
  rwa [Nat.zero_add] at this
 intro xs
 induction xs with
 | nil => intro acc k h t ht; simpa using h t ht
 | cons x xs ih =>
  intro acc k h t ht
  rw [List.foldl_cons] at ht
  have := ih (tabStep key acc x) (k + 1) (fun s hs => ?_) t ht
  ·rw [show k + (x :: xs).length = k + 1 + xs.length by simp; omega]; exact this
  ·unfold tabStep at hs
   cases hl : acc.getLast? with
   | none => rw [hl] at hs; simp only [List.mem_singleton] at hs; subst hs; simp only; omega
   | some t0 =>
    obtain ⟨y, c⟩ := t0
    have he : acc = acc.dropLast ++ [(y, c)] := (getLast_split _ _ hl)
    have hy := h (y, c) (by rw [he]; simp)
    simp only at hy
    rw [hl] at hs
    dsimp only at hs
    by_cases hk : key y = key x
    ·rw [if_pos hk] at hs
     rcases List.mem_append.mp hs with hs | hs
     ·have := h s (List.dropLast_subset _ hs); omega
     ·simp only [List.mem_singleton] at hs; subst hs; simp only; omega
    ·rw [if_neg hk] at hs
     rcases List.mem_append.mp hs with hs | hs
     ·have := h s hs; omega
     ·simp only [List.mem_singleton] at hs; subst hs; simp only; omega
/-- What is known of the state's rows: no row twice, none that is still to come. -/
theorem tabOf_apart {n : Nat} (key : Fin n → Int × Int) (done rest : List (Fin n)) (h : (done ++ rest).Nodup) : ((tabOf key done).map (·.1)).Nodup ∧ (∀ t ∈ tabOf key done, t.1 ∉ rest) ∧ (tabOf key done).length ≤ done.length := by
 have hs := tabOf_sub key done
 rw [List.nodup_append] at h
 refine ⟨hs.nodup h.1, fun t ht hr => ?_, by simpa using hs.length_le⟩
 exact h.2.2 t.1 (hs.subset (List.mem_map_of_mem ht)) t.1 hr rfl
/-- The rows of a table, as they lie: each its own block of three. -/
structure TabAt (g : Nat) (bb cc : Nat → Nat) (rows : List (List Int)) (base : Nat) (W : World) : Prop where
 cell : ∀ k, k < rows.length → W.cell? ⟨g, k, none⟩ = some (.slice (some ⟨bb k, 0, none⟩) 3 (cc k))
 row : ∀ k, k < rows.length → ∃ p o c : Int, rows.getD k [] = [p, o, c] ∧ W.cell? ⟨bb k, 0, none⟩ = some (.int .i64 p) ∧ W.cell? ⟨bb k, 1, none⟩ = some (.int .i64 o) ∧ W.cell? ⟨bb k, 2, none⟩ = some (.int .i64 c)
 own : ∀ k, k < rows.length → base ≤ bb k ∧ bb k ≠ g
 froz : ∀ k, k < rows.length → ∀ y, W.frozen? ⟨bb k, y, none⟩ = false
 inj : ∀ k l, k < rows.length → l < rows.length → bb k = bb l → k = l
 cap : ∀ k, k < rows.length → 3 ≤ cc k
 gown : base ≤ g
theorem tab_rows (n : Nat) (hs : List (Int × Int)) (hn : hs.length = n) (key : Fin n → Int × Int) (hk : key = fun i => hs.getD i.val (0, 0)) (es : List (Fin n)) (hp : es.Perm (List.finRange n)) (hs' : es.Pairwise (fun x y => lexLt (key y) (key x) = false)) :
  tabP hs = (tabOf key es).map fun t => [(key t.1).1, (key t.1).2, t.2] := by
 have h1 : (List.finRange n).map key = hs := by
  apply List.ext_getElem
  ·simp [hn]
  ·intro i h1 h2
   rw [List.getElem_map, congrFun hk]
   simp [List.getD_eq_getElem?_getD, h2]
 have h2 : es.map key = hs.mergeSort lexLe := sorted_eq _ _ (by rw [← h1]; exact hp.map key) (List.pairwise_map.mpr hs')
 unfold tabP
 rw [← h2, ← tabOf_map, List.map_map]
 rfl
theorem TabI.rows {n : Nat} {g : Nat} {b cp : Fin n → Nat} {key : Fin n → Int × Int} {acc : List (Fin n × Int)} {j : Nat} {W : World} (h : TabI g b cp key acc [] j W) (hnd : (acc.map (·.1)).Nodup) (hinj : ∀ i j, b i = b j → i = j) (hcp : ∀ i, 3 ≤ cp i)
  (base : Nat) (hg : base ≤ g) (hb : ∀ i, base ≤ b i ∧ b i ≠ g) (x0 : Fin n) :
  TabAt g (fun k => b ((acc.map (·.1)).getD k x0)) (fun k => cp ((acc.map (·.1)).getD k x0)) (acc.map fun t => [(key t.1).1, (key t.1).2, t.2]) base W := by
 have at_ : ∀ k, k < acc.length → ∃ x c, acc[k]? = some (x, c) ∧ (acc.map (·.1)).getD k x0 = x := by
  intro k hk
  refine ⟨acc[k].1, acc[k].2, by rw [List.getElem?_eq_getElem hk], ?_⟩
  rw [List.getD_eq_getElem?_getD, List.getElem?_map, List.getElem?_eq_getElem hk]
  rfl
 refine ⟨fun k hk => ?_, fun k hk => ?_, fun k hk => ?_, fun k hk y => ?_, fun k l hk hl e => ?_, fun k hk => ?_, hg⟩
 ·obtain ⟨x, c, h1, h2⟩ := at_ k (by simpa using hk)
  simp only [h2]
  exact (h.done k x c h1).1
 ·obtain ⟨x, c, h1, h2⟩ := at_ k (by simpa using hk)
  refine ⟨(key x).1, (key x).2, c, ?_, ?_, ?_, ?_⟩
  ·rw [List.getD_eq_getElem?_getD, List.getElem?_map, h1]; rfl
  ·simp only [h2]; exact (h.key x).1
  ·simp only [h2]; exact (h.key x).2
  ·simp only [h2]; exact (h.done k x c h1).2
 ·exact hb _
 ·exact h.fb _ _
 ·have hk' : k < (acc.map (·.1)).length := by simpa using hk
  have hl' : l < (acc.map (·.1)).length := by simpa using hl
  have e2 := hinj _ _ e
  rw [List.getD_eq_getElem?_getD, List.getD_eq_getElem?_getD, List.getElem?_eq_getElem hk', List.getElem?_eq_getElem hl'] at e2
  simp only [Option.getD_some] at e2
  have hpw := List.pairwise_iff_getElem.mp hnd
  rcases Nat.lt_trichotomy k l with h1 | h1 | h1
  ·exact absurd e2 (hpw k l hk' hl' h1)
  ·exact h1
  ·exact absurd e2.symm (hpw l k hl' hk' h1)
 ·exact hcp _
set_option maxHeartbeats 4000000 in
set_option maxRecDepth 100000 in
theorem impl_table.calls (k : Nat) (A0 : Option Addr) (c0 : Nat) (l0 : List ByteArray) (a1 : ByteArray) (r : List (List Int)) (w : World) (hr0 : Kd.C Kd.string w A0 l0.length l0) (hc0 : l0.length ≤ c0) (h : impl_table.f k l0 a1 = some r) :
  Calls Tryz.prog 79 #[.slice A0 l0.length c0, .string a1] w fun e w' => ∃ (A : Option Addr) (g : Nat) (bb cc : Nat → Nat), e = .returned (.slice A r.length r.length) ∧ (r = [] ∨ A = some ⟨g, 0, none⟩) ∧ TabAt g bb cc r w.heap.size w' ∧ Below w.heap.size w w' := by
 unfold impl_table.f at h
 by_cases hlen : l0.length ≤ 1000
 case neg => rw [if_neg hlen] at h; exact absurd h (by simp)
 rw [if_pos hlen] at h
 obtain ⟨hs, hhs, rfl⟩ := Option.map_eq_some_iff.mp h
 obtain ⟨hsl, hsi⟩ := hintsL_all k a1 l0 hs hhs
 have HR0 := Aside0.mk hr0
 have HC0 := Aside0.mk hc0
 have HSL := Aside0.mk hsl
 have HSI := Aside0.mk hsi
 have HLEN := Aside0.mk hlen
 clear hr0 hc0 hhs h hsl hsi hlen
 go_enter Tryz.func79, Tryz.ntmps79
 have HS0 : Aside0 (Kd.S (Kd.slice 3 (Kd.int .i64)) 55 (w.alloc (.cells #[] 55)) w.heap.size (fun _ => True) (.slice (some ⟨w.heap.size, 0, none⟩) 0 0) ((hs.take 0).map row1)) := ⟨⟨fun _ => 0, hw_R_lit (Kd.tag (fun _ => 0) (Kd.slice 3 (Kd.int .i64))) w 55 w.heap.size w.heap.size (xs := ([] : List (List Int)).zipIdx) (inner := []) (ok := fun _ => True) (okp := fun _ => False) rfl (Reps.none _ _) (fun _ h => h.elim) trivial (Nat.le_refl _) (by simp)⟩⟩
 have HB0 := Aside0.mk (below_alloc (Below.refl w.heap.size w) (.cells #[] 55))
 have HIN : Aside0 ((Tryz.prog.info? 55).map (fun i => (i.zero, i.size, i.bytes)) = some (some (.slice none 0 0), 1, 24)) := ⟨by kernel_rfl⟩
 have HOC := HR0
 go_wp2
 go_loopg [5, 16] l0.length (fun gg v5 v16 wr => ∃ i : Nat, v16 = .int .i64 (i : Int) ∧ i ≤ l0.length ∧ l0.length - i ≤ gg ∧ Aside0 (Kd.S (Kd.slice 3 (Kd.int .i64)) 55 wr w.heap.size (fun _ => True) v5 ((hs.take i).map row1)) ∧ Aside0 (Below w.heap.size w wr))
 case atStart => exact ⟨0, rfl, by omega, by omega, HS0, HB0⟩
 case round =>
  clear HS0 HB0
  obtain ⟨i, rfl, hi, hg, HS, HB⟩ := hrel
  obtain ⟨A2, c2, e2⟩ := Kd.S_slice HS.out
  subst e2
  by_cases hlt : i < l0.length
  ·have hltz : (i : Int) < (l0.length : Int) := by omega
   obtain ⟨ad, e1, hx0⟩ := Kd.at_string (Kd.C_below HR0.out HB.out) (i : Int) (by omega) (by omega)
   rw [Int.toNat_natCast] at hx0
   cases e1
   have HLT := Aside0.mk hlt
   have HG := Aside0.mk hg
   have HNX : Aside0 (wrap64 ((i : Int) + 1) = ((i + 1 : Nat) : Int)) := ⟨by have := HLEN.out; unfold wrap64; omega⟩
   obtain ⟨s, hs'⟩ : ∃ s, s = rdOf ByteArray.empty l0 (i : Int) := ⟨_, rfl⟩
   rw [← hs'] at hx0
   have hf : impl_hint.f k a1 s = some (hs.getD i (0, 0)) := by rw [hs']; simpa [rdOf] using HSI.out i hlt
   obtain ⟨⟨p, o⟩, hpo⟩ : ∃ y, y = hs.getD i (0, 0) := ⟨_, rfl⟩
   rw [← hpo] at hf
   have hhint : ∀ W, Calls Tryz.prog 56 #[.string a1, .string s] W _ := fun W => impl_hint.calls k a1 s p o W hf
   have HPO := Aside0.mk hpo
   clear hs' hpo hi hg hlt hf
   obtain ⟨rs, hrs⟩ : ∃ rs, rs = (hs.take i).map row1 := ⟨_, rfl⟩
   rw [← hrs] at HS ⊢
   have HRS := Aside0.mk hrs
   clear hrs
   go_wp2_with (first | (go_at_call 56; refine (hhint _).mono ?_; rintro e w1 ⟨rfl, hb⟩; have n0 := Aside0.mk (Kd.S_below HS.out hb); have n1 := Aside0.mk (below_then HB.out HB.out.size hb); clear hb HS HB; have HS := n0; have HB := n1; clear n0 n1) | ((with_reducible refine gate_builtin (b := .append) (xs := #[.tmp 26, .tmp 30]) rfl ?_); at_builtin; refine Kd.S_append (Kd.slice 3 (Kd.int .i64)) (w0 := w) (W := w1.alloc (.cells #[.int .i64 p, .int .i64 o, .int .i64 1] 3)) w.heap.size rfl (.tmp 26) (.tmp 30) 44 55 (.slice none 0 0) 24 rfl Tryz.underlying44 HIN.out rfl (by decide) (by omega) (.slice A2 rs.length c2) rs [p, o, 1] [.slice (some ⟨w1.heap.size, 0, none⟩) 3 3] (fun _ => True) (fun k_ => k_ = w1.heap.size) rfl (by first | rfl | (go_simp; done)) ?aP ?aK (fun _ _ => trivial) ?aO ?aB ?aS ?aL ?_; (case aP => exact ⟨_, rfl, hw_R_lit (Kd.int .i64) w1 3 w.heap.size w1.heap.size (xs := [p, o, 1]) (inner := [.int .i64 p, .int .i64 o, .int .i64 1]) (ok := fun k_ => k_ = w1.heap.size) (okp := fun _ => False) rfl (Reps.one rfl (Reps.one rfl (Reps.one rfl (Reps.none _ _)))) (fun _ h => h.elim) rfl HB.out.size (by simp)⟩); (case aK => intro q hq; refine ⟨trivial, fun he => ?_⟩; have := Kd.S_lt HS.out q he.symm; omega); (case aO => exact Kd.S_mono (Kd.S_alloc (Kd.S_bound HS.out) _) (fun q hq => ⟨trivial, fun he => by have := hq.2.2.1; omega⟩)); (case aB => exact below_alloc HB.out _); (case aS => have := HB.out.size; have := World.size_alloc w1 (.cells #[.int .i64 p, .int .i64 o, .int .i64 1] 3); omega); (case aL => have : rs.length ≤ i := (by rw [HRS.out]; simp; omega); have := HLT.out; have := HLEN.out; omega); intro v1 w9 ho hb hg hat; have HS9 := Aside0.mk ho; have HB9 := Aside0.mk hb; clear ho hb hg hat))
   go_roundg (l0.length - (i + 1))
   case measure => have := HG.out; have := HLT.out; omega
   case rel => exact ⟨i + 1, by rw [HNX.out], by have := HLT.out; omega, Nat.le_refl _, ⟨by rw [take_row1 hs i p o (by rw [HSL.out]; exact HLT.out) HPO.out, ← HRS.out]; exact HS9.out⟩, HB9⟩
  ·have hin : i = l0.length := by omega
   have HSN : Aside0 (Kd.S (Kd.slice 3 (Kd.int .i64)) 55 wr w.heap.size (fun _ => True) (.slice A2 (hs.map row1).length c2) (hs.map row1)) := ⟨by have e := HS.out; rw [hin, show hs.take l0.length = hs by rw [← HSL.out]; exact List.take_length] at e; exact e⟩
   have HCAP : Aside0 (l0.length ≤ c2) := ⟨by have := (Kd.S_reads' HSN.out).2.1; rw [List.length_map, HSL.out] at this; exact this⟩
   have hltz : ¬ (i : Int) < (l0.length : Int) := by omega
   have HNL : ((hs.take i).map row1).length = l0.length := by rw [hin, List.length_map, ← HSL.out, List.take_length]
   have HML : (hs.map row1).length = l0.length := by rw [List.length_map, HSL.out]
   rw [HNL]
   rw [HML] at HSN
   clear HS HNL HML hin
   by_cases hz : l0.length = 0
   ·have hnone : ∀ fv, Calls Tryz.prog 62 #[.slice A2 0 c2, fv] wr fun e w' => e = .returned (.tuple #[]) ∧ w' = wr := fun fv => AnyF.slices_SortFunc_none { sortL with } A2 c2 fv wr
    have hl00 : hs = [] := List.eq_nil_of_length_eq_zero (by rw [HSL.out]; exact hz)
    have HL00 := Aside0.mk hl00
    rw [hz]
    rw [hz] at hltz hi
    clear hz hl00
    go_wp2_with (go_at_call 62; refine (hnone _).mono ?_; rintro e w9 ⟨rfl, rfl⟩)
    have HC2 : Aside0 ((0 : Int) ≤ (c2 : Int)) := ⟨by omega⟩
    clear hnone
    go_loopg [10, 37] 0 (fun gg v10 v37 wx => wx = w9 ∧ v10 = .int .i64 0 ∧ v37 = .int .i64 0)
    case atStart => exact ⟨rfl, rfl, rfl⟩
    case round =>
     obtain ⟨rfl, rfl, rfl⟩ := hrel
     have hc2 := HC2.out
     have HT0 : Aside0 (tabP hs = []) := ⟨by rw [HL00.out]; simp [tabP, tabOf]⟩
     go_wp2
     go_ret
     rw [HT0.out]
     refine ⟨A2, w.heap.size, fun _ => 0, fun _ => 0, ?_, .inl rfl, ?_, HB.out⟩
     ·rfl
     ·exact ⟨fun k hk => absurd hk (by simp), fun k hk => absurd hk (by simp), fun k hk => absurd hk (by simp), fun k hk => absurd hk (by simp), fun k l hk => absurd hk (by simp), fun k hk => absurd hk (by simp), Nat.le_refl _⟩
   ·obtain ⟨g, cs, es0, _, _, _⟩ := Kd.S_form HSN.out (by rw [List.length_map, HSL.out]; omega)
    injection es0 with es0 e92 e93
    clear e92 e93
    subst es0
    obtain ⟨b, cp, hinj, hbb, hcp, hcell, hthree, hbf, hg1, hg2, hgf⟩ := rows_at g l0.length c2 (hs.map row1) wr w.heap.size (fun _ => True) HSN.out (fun i => (hs.getD i (0, 0)).1) (fun i => (hs.getD i (0, 0)).2) (fun i h => row1_at hs i h)
    have hsort := sortRP_calls g l0.length c2 wr b cp (fun i => (hs.getD i (0, 0)).1) (fun i => (hs.getD i (0, 0)).2) (by omega) HLEN.out (fun i => ⟨(hbb i).1, (hbb i).2.2⟩) hg2 hgf hcell hthree
    have HINJ := Aside0.mk hinj
    have HP : Aside0 (0 < l0.length) := ⟨by omega⟩
    have HCP := Aside0.mk hcp
    have HBB := Aside0.mk hbb
    have HTH := Aside0.mk hthree
    have HBF := Aside0.mk hbf
    have HGS : Aside0 (w.heap.size ≤ g) := ⟨hg1⟩
    clear hinj hbb hcp hcell hthree hbf hg1 hg2 hgf hz hi hg
    go_wp2_with (go_at_call 62; refine hsort.mono ?_; rintro e w9 ⟨rfl, hq⟩; have HQ := Aside0.mk hq; clear hq hsort)
    obtain ⟨key, hkey⟩ : ∃ key : Fin l0.length → Int × Int, key = fun i => hs.getD i.val (0, 0) := ⟨_, rfl⟩
    have HKEY := Aside0.mk hkey
    clear hkey
    obtain ⟨es, hel, hnd, hpm, hsd, hce, hgr, hfr⟩ := HQ.out
    have hT0 : TabI g b cp key (tabOf key []) es 0 w9 := by
     have old : ∀ (z : Fin l0.length) (y : Nat), w9.cell? ⟨b z, y, none⟩ = wr.cell? ⟨b z, y, none⟩ := fun z y => grown_cell hgr (HBB.out z).2.2 (HBB.out z).1 y
     have oldf : ∀ (z : Fin l0.length) (y : Nat), w9.frozen? ⟨b z, y, none⟩ = wr.frozen? ⟨b z, y, none⟩ := fun z y => grown_frozen hgr (HBB.out z).2.2 (HBB.out z).1 y
     refine ⟨fun q x c hq => by simp [tabOf] at hq, fun q x hq => ?_, fun x => ?_, fun q hq => ?_, hfr, fun x y => by rw [oldf]; exact HBF.out x y⟩
     ·obtain ⟨hq1, hq2⟩ := List.getElem?_eq_some_iff.mp hq
      have := hce q hq1
      rw [hq2] at this
      rw [Nat.zero_add, old]
      exact ⟨this, (HTH.out x).2.2⟩
     ·rw [old, old, HKEY.out]
      exact ⟨(HTH.out x).1, (HTH.out x).2.1⟩
     ·rw [hce q (by omega)]; rfl
    have HT := Aside0.mk hT0
    have HB9 : Aside0 (Below w.heap.size w w9) := ⟨HB.out.grown hgr HB.out.size (by intro q hq; injection hq with hq; exact hq ▸ HGS.out)⟩
    have HES := Aside0.mk (show es.length = l0.length ∧ es.Nodup ∧ es.Perm (List.finRange l0.length) ∧ es.Pairwise (fun x y => lexLt (key y) (key x) = false) from ⟨hel, hnd, hpm, by rw [HKEY.out]; exact hsd⟩)
    clear hT0 hel hnd hpm hsd hce hgr hfr HQ HTH HBF HB
    go_loopg [10, 37] l0.length (fun gg v10 v37 wr => ∃ (dn rest : List (Fin l0.length)), es = dn ++ rest ∧ v37 = .int .i64 (dn.length : Int) ∧ v10 = .int .i64 ((tabOf key dn).length : Int) ∧ rest.length ≤ gg ∧ Aside0 (TabI g b cp key (tabOf key dn) rest dn.length wr) ∧ Aside0 (Below w.heap.size w wr))
    case atStart => exact ⟨[], es, rfl, rfl, rfl, by rw [HES.out.1]; exact Nat.le_refl _, HT, HB9⟩
    case round =>
     clear HT HB9
     obtain ⟨dn, rest, hes, rfl, rfl, hgg, HT, HB⟩ := hrel
     cases rest with
     | nil =>
      rw [List.append_nil] at hes
      subst hes
      have hnl : ¬ ((es.length : Int) < (l0.length : Int)) := by rw [HES.out.1]; omega
      obtain ⟨ha1, ha2, ha3⟩ := tabOf_apart key es [] (by rw [List.append_nil]; exact HES.out.2.1)
      have hrw := tab_rows l0.length hs HSL.out key HKEY.out es HES.out.2.2.1 HES.out.2.2.2
      obtain ⟨acc, hacc⟩ : ∃ acc, acc = tabOf key es := ⟨_, rfl⟩
      rw [← hacc] at HT hrw ha1 ha2 ha3 ⊢
      obtain ⟨m, hm⟩ : ∃ m, m = acc.length := ⟨_, rfl⟩
      rw [← hm]
      have hml : (m : Int) ≤ (c2 : Int) := by have := HES.out.1; have := HCAP.out; omega
      have hmn : m ≤ c2 := by omega
      have HM := Aside0.mk hm
      have HA := Aside0.mk ha1
      have HRW := Aside0.mk hrw
      clear hacc hm hrw ha1 ha2 ha3
      go_wp2
      go_ret
      refine ⟨some ⟨g, 0, none⟩, ?_, g, .inr rfl, ?_, HB.out⟩
      ·rw [HRW.out, List.length_map, ← HM.out]; rfl
      ·rw [HRW.out]
       exact ⟨_, _, HT.out.rows HA.out HINJ.out HCP.out _ HGS.out (fun i => ⟨(HBB.out i).2.1, (HBB.out i).1⟩) ⟨0, HP.out⟩⟩
     | cons x rest =>
      have hdl : dn.length < es.length := by rw [hes, List.length_append]; simp
      rw [HES.out.1] at hdl
      obtain ⟨ha1, ha2, ha3⟩ := tabOf_apart key dn (x :: rest) (hes ▸ HES.out.2.1)
      have hsn := tabOf_snoc key dn x
      have hcn := tabOf_cnt key dn
      obtain ⟨acc, hacc⟩ : ∃ acc, acc = tabOf key dn := ⟨_, rfl⟩
      rw [← hacc] at HT hsn ha1 ha2 ha3 hcn ⊢
      clear hacc
      obtain ⟨j, hj⟩ : ∃ j, j = dn.length := ⟨_, rfl⟩
      rw [← hj] at HT hdl ha3 hcn ⊢
      obtain ⟨m, hm⟩ : ∃ m : Int, m = (acc.length : Int) := ⟨_, rfl⟩
      rw [← hm]
      have hx0 := (HT.out.todo 0 x rfl).1
      rw [Nat.add_zero] at hx0
      have hxk := HT.out.key x
      have HXK := Aside0.mk hxk
      have hltz : (j : Int) < (l0.length : Int) := by omega
      have HDL := Aside0.mk hdl
      have HJ := Aside0.mk hj
      have HES2 := Aside0.mk hes
      have HA := Aside0.mk (And.intro ha1 (And.intro ha2 (And.intro ha3 hcn)))
      have HGG := Aside0.mk hgg
      have HM := Aside0.mk hm
      have HNJ : Aside0 (wrap64 ((j : Int) + 1) = ((j + 1 : Nat) : Int)) := ⟨by have := HLEN.out; unfold wrap64; omega⟩
      have HSN := Aside0.mk hsn
      have hfg := fun y => HT.out.fg y
      clear hj hes ha1 ha2 ha3 hcn hgg hm hsn hxk hdl
      cases hl : acc.getLast? with
      | none =>
       have ha0 : acc = [] := by simpa using hl
       have hm0 : m = 0 := by rw [HM.out, ha0]; rfl
       subst hm0
       clear hl
       have HA0 := Aside0.mk ha0
       clear ha0
       obtain ⟨u, hu⟩ := Option.isSome_iff_exists.mp (HT.out.room 0 (Nat.lt_of_le_of_lt (Nat.zero_le _) HDL.out))
       have hf0 := hfg 0
       clear hfg
       go_wp2_with (go_region)
       go_roundg rest.length
       case measure => have := HGG.out; simp at this; omega
       case rel =>
        have hst : tabStep key acc x = acc ++ [(x, 1)] := by rw [HA0.out]; rfl
        refine ⟨dn ++ [x], rest, by rw [List.append_assoc]; exact HES2.out, by rw [HNJ.out, HJ.out, List.length_append]; rfl, by rw [HSN.out, hst, HA0.out]; rfl, Nat.le_refl _, ⟨?_⟩, ⟨?_⟩⟩
        ·have e := (HT.out.drewN 1).put (fun z => (HBB.out z).1) HA.out.2.2.1 HDL.out
         rw [HSN.out, hst, List.length_append, ← HJ.out]
         rw [HA0.out] at e ⊢
         exact e
        ·exact (below_drew HB.out).setCell HGS.out _
      | some t0 =>
       obtain ⟨y, c⟩ := t0
       have he : acc = acc.dropLast ++ [(y, c)] := (getLast_split _ _ hl)
       obtain ⟨acc0, ha0⟩ : ∃ a, a = acc.dropLast := ⟨_, rfl⟩
       rw [← ha0] at he
       clear ha0 hl
       subst he
       obtain ⟨M, hMm⟩ : ∃ M : Nat, m = (M : Int) := ⟨_, HM.out⟩
       subst hMm
       have HMN : Aside0 (M = (acc0 ++ [(y, c)]).length) := ⟨by have := HM.out; omega⟩
       have HMW : Aside0 (wrap64 ((M : Int) + 1) = ((M + 1 : Nat) : Int)) := ⟨by have := HMN.out; have := HA.out.2.2.1; have := HDL.out; have := HLEN.out; unfold wrap64; omega⟩
       have hMj : M < l0.length := by have := HM.out; have := HA.out.2.2.1; have := HDL.out; omega
       obtain ⟨u, hu⟩ := Option.isSome_iff_exists.mp (HT.out.room M hMj)
       have hfM := hfg M
       clear hfg
       have hMz : (M : Int) < (l0.length : Int) := by omega
       have hd := HT.out.done acc0.length y c (by simp)
       have hy0 := hd.1
       have hy2 := hd.2
       have hyf := HT.out.fb y 2
       clear hd
       have hyk := HT.out.key y
       have HYK := Aside0.mk hyk
       have hb9 : 1 ≤ c ∧ c ≤ (j : Int) := HA.out.2.2.2 (y, c) (by simp)
       have HC9 : Aside0 (wrap64 (c + 1) = c + 1) := ⟨by have := HDL.out; have := HLEN.out; unfold wrap64; omega⟩
       have hm1 : (M : Int) = (acc0.length : Int) + 1 := by rw [HM.out, List.length_append]; rfl
       have hm0 : (0 : Int) < (M : Int) := by omega
       have hm0n : 0 < M := by omega
       have hla : acc0.length < l0.length := by have := HA.out.2.2.1; rw [List.length_append] at this; have := HDL.out; simp at *; omega
       have hmw : wrap64 ((M : Int) - 1) = (acc0.length : Int) := by have := HLEN.out; unfold wrap64; omega
       obtain ⟨q, hq⟩ : ∃ q, q = acc0.length := ⟨_, rfl⟩
       rw [← hq] at hy0 hmw hla
       have HQ0 := Aside0.mk hq
       have hcy : (2 : Int) ≤ (cp y : Int) := by have := HCP.out y; omega
       have hcx : (2 : Int) ≤ (cp x : Int) := by have := HCP.out x; omega
       have hmi : IntKind.i64.wrap ((M : Int) - 1) = (q : Int) := by rw [IntKind.wrap_i64]; unfold wrap64 at hmw; exact hmw
       have hq0 : (0 : Int) ≤ (q : Int) := by omega
       have hqz : (q : Int) < (l0.length : Int) := by omega
       clear hm1 hb9 hyk hq hMj hla
       by_cases hk : key y = key x
       ·have hE : eq2 (key y).1 (key y).2 (key x).1 (key x).2 = true := by unfold eq2; rw [hk]; simp
        have HK := Aside0.mk hk
        clear hk
        go_wp2_with (fail)
        go_region_held3 (fun w' => w'.cell? ⟨g, q, none⟩ = some (.slice (some ⟨b y, 0, none⟩) 3 (cp y))) (first | go_keep) (first | (go_at_call 114; refine (eq2_calls (b y) (b x) (cp y) (cp x) (key y).1 (key y).2 (key x).1 (key x).2 wr.drew (by exact HYK.out.1) (by exact HYK.out.2) (by exact HXK.out.1) (by exact HXK.out.2)).mono ?_; rintro e w' ⟨rfl, ⟨nd, rfl⟩⟩))
        go_wp2
        go_roundg rest.length
        case measure => have := HGG.out; simp at this; omega
        case rel =>
         have hst : tabStep key (acc0 ++ [(y, c)]) x = acc0 ++ [(y, c + 1)] := by unfold tabStep; simp [HK.out]
         refine ⟨dn ++ [x], rest, by rw [List.append_assoc]; exact HES2.out, by rw [HNJ.out, HJ.out, List.length_append]; rfl, by rw [HSN.out, hst, HM.out, List.length_append, List.length_append]; rfl, Nat.le_refl _, ⟨?_⟩, ⟨?_⟩⟩
         ·rw [HSN.out, hst, List.length_append, ← HJ.out]
          have hnd := HA.out.1
          rw [List.map_append, List.nodup_append] at hnd
          have e := TabI.inc (HT.out.drewN (1 + nd)) (fun z => (HBB.out z).1) HINJ.out (fun t ht he => hnd.2.2 t.1 (List.mem_map_of_mem ht) y (by simp) he) (HA.out.2.1 (y, c) (by simp))
          rw [HC9.out]
          exact e
         ·exact (pw_below_drewN HB.out _).setCell (HBB.out y).2.1 _
       ·have hE : eq2 (key y).1 (key y).2 (key x).1 (key x).2 = false := by unfold eq2; exact decide_eq_false (fun h => hk (Prod.ext h.1 h.2))
        have HK := Aside0.mk hk
        clear hk
        go_wp2_with (fail)
        go_region_held3 (fun w' => w'.cell? ⟨g, q, none⟩ = some (.slice (some ⟨b y, 0, none⟩) 3 (cp y))) (first | go_keep) (first | (go_at_call 114; refine (eq2_calls (b y) (b x) (cp y) (cp x) (key y).1 (key y).2 (key x).1 (key x).2 wr.drew (by exact HYK.out.1) (by exact HYK.out.2) (by exact HXK.out.1) (by exact HXK.out.2)).mono ?_; rintro e w' ⟨rfl, ⟨nd, rfl⟩⟩))
        go_wp2
        go_roundg rest.length
        case measure => have := HGG.out; simp at this; omega
        case rel =>
         have hst : tabStep key (acc0 ++ [(y, c)]) x = (acc0 ++ [(y, c)]) ++ [(x, 1)] := by unfold tabStep; simp [HK.out]
         refine ⟨dn ++ [x], rest, by rw [List.append_assoc]; exact HES2.out, by rw [HNJ.out, HJ.out, List.length_append]; rfl, by rw [HSN.out, hst, HMW.out, List.length_append, ← HMN.out]; rfl, Nat.le_refl _, ⟨?_⟩, ⟨?_⟩⟩
         ·rw [HSN.out, hst, List.length_append, ← HJ.out]
          have e := (HT.out.drewN (1 + nd)).put (fun z => (HBB.out z).1) HA.out.2.2.1 HDL.out
          rw [← HMN.out] at e
          exact e
         ·exact (pw_below_drewN HB.out _).setCell HGS.out _
theorem tabP_le (hs : List (Int × Int)) : (tabP hs).length ≤ hs.length := by
 unfold tabP
 rw [List.length_map]
 have := (tabOf_sub (fun x => x) (hs.mergeSort lexLe)).length_le
 rw [List.length_map, (List.mergeSort_perm hs lexLe).length_eq] at this
 exact this
theorem impl_table.f_le {k : Nat} {codes : List ByteArray} {guess : ByteArray} {rows : List (List Int)} (h : impl_table.f k codes guess = some rows) : rows.length ≤ 1000 := by
 unfold impl_table.f at h
 by_cases hl : codes.length ≤ 1000
 ·rw [if_pos hl] at h
  obtain ⟨hs, hhs, rfl⟩ := Option.map_eq_some_iff.mp h
  have := (hintsL_all k guess codes hs hhs).1
  have := tabP_le hs
  omega
 ·rw [if_neg hl] at h; exact absurd h (by simp)


end Go.Proofs.YtcpnmiempaofdaaGreat.G
