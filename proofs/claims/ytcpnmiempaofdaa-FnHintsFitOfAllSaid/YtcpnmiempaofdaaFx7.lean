-- Printed by hp.py, a program of this session: a machine's side of laws, out of the translation; Lean checks it.
import Derived.Test.YtcpnmiempaofdaaFx0
import Derived.Test.YtcpnmiempaofdaaFx1
import Derived.Test.YtcpnmiempaofdaaFx2
import Derived.Test.YtcpnmiempaofdaaFx3
import Derived.Test.YtcpnmiempaofdaaFx6
namespace Go.Proofs.Ytcpnmiempaofdaa.F
open Go.RowKit Go.Proofs.YtcpnmiempaofdaaW.PrintWords Go.Proofs.YtcpnmiempaofdaaW.PrintLast Go.Proofs.YtcpnmiempaofdaaW.PrintMore
attribute [local go_sem] max2_int min2_int max_two min_two max_three min_three max_four min_four   -- for this text's walks alone
set_option maxHeartbeats 8000000
set_option maxRecDepth 100000
set_option linter.unusedVariables false
set_option linter.unusedSimpArgs false

/-! ### impl_HintTable: function 27 -/
def impl_HintTable.f (k : Nat) (a b : Int) (l : List S31) (c : ByteArray) : Option (List (List Int) × Bool) :=
  (impl_areHints.f k a b l).bind fun t => if t = true then
    ((impl_has.f k a b [c]).bind fun u => if u = true then
      ((impl_Lock_fitting.f k a b l).bind fun cs => (impl_table.f k cs c).bind fun rows => some (rows, true))
    else some ([], false))
  else some ([], false)
theorem impl_HintTable.mono : ∀ a b l c k, LeO (impl_HintTable.f k a b l c) (impl_HintTable.f (k + 1) a b l c) := fun a b l c k =>
  LeO.bind (impl_areHints.mono _ _ _ _) (fun t => LeO.ite (LeO.bind (impl_has.mono _ _ _ _) (fun u => LeO.ite (LeO.bind (impl_Lock_fitting.mono _ _ _ _) (fun cs => LeO.bind (impl_table.mono _ _ _) (fun r => LeO.refl _))) (LeO.refl _))) (LeO.refl _))
theorem cell_lt {W : World} {q y : Nat} {v : Value} (h : W.cell? ⟨q, y, none⟩ = some v) : q < W.heap.size := by
  by_cases hq : q < W.heap.size
  · exact hq
  · unfold World.cell? at h
    rw [Array.getElem?_eq_none (by simpa using hq)] at h
    simp at h
theorem TabAt.lower {g : Nat} {bb cc : Nat → Nat} {rows : List (List Int)} {base base' : Nat} {W : World} (h : TabAt g bb cc rows base W) (hb : base' ≤ base) : TabAt g bb cc rows base' W :=
  ⟨h.cell, h.row, fun k hk => ⟨Nat.le_trans hb (h.own k hk).1, (h.own k hk).2⟩, h.froz, h.inj, h.cap, Nat.le_trans hb h.gown⟩
theorem TabAt.move {g : Nat} {bb cc : Nat → Nat} {rows : List (List Int)} {base : Nat} {W W' : World} (h : TabAt g bb cc rows base W) (hm : ∀ q, (q = g ∨ ∃ k, k < rows.length ∧ q = bb k) → q < W.heap.size → W'.heap[q]? = W.heap[q]?) : TabAt g bb cc rows base W' := by
  have hb : ∀ k, k < rows.length → bb k < W.heap.size := fun k hk => by
    obtain ⟨p, o, c, _, h0, _, _⟩ := h.row k hk
    exact cell_lt h0
  refine ⟨fun k hk => ?_, fun k hk => ?_, h.own, fun k hk y => ?_, h.inj, h.cap, h.gown⟩
  · exact (World.cell?_of_block (hm g (.inl rfl) (cell_lt (h.cell k hk)))).trans (h.cell k hk)
  · obtain ⟨p, o, c, he, h0, h1, h2⟩ := h.row k hk
    have hq := hm (bb k) (.inr ⟨k, hk, rfl⟩) (hb k hk)
    exact ⟨p, o, c, he, (World.cell?_of_block hq).trans h0, (World.cell?_of_block hq).trans h1, (World.cell?_of_block hq).trans h2⟩
  · exact (World.frozen?_of_block (hm (bb k) (.inr ⟨k, hk, rfl⟩) (hb k hk))).trans (h.froz k hk y)
theorem TabAt.below {g : Nat} {bb cc : Nat → Nat} {rows : List (List Int)} {base : Nat} {W W' : World} (h : TabAt g bb cc rows base W) (hb : Below W.heap.size W W') : TabAt g bb cc rows base W' :=
  h.move (fun q _ hq => hb.block q hq)
theorem TabAt.drewN {g : Nat} {bb cc : Nat → Nat} {rows : List (List Int)} {base : Nat} {W : World} (h : TabAt g bb cc rows base W) (n : Nat) : TabAt g bb cc rows base (W.drewN n) :=
  h.move (fun q _ _ => rfl)
/-- As rows that are read. -/
theorem TabAt.reads {A : Option Addr} {g : Nat} {bb cc : Nat → Nat} {rows : List (List Int)} {base : Nat} {W : World} (h : TabAt g bb cc rows base W) (hA : rows = [] ∨ A = some ⟨g, 0, none⟩) (hl : rows.length ≤ 1000000) : Kd.C (Kd.slice 3 (Kd.int .i64)) W A rows.length rows := by
  refine ⟨rfl, by omega, fun hn => ?_⟩
  have hA' : A = some ⟨g, 0, none⟩ := by
    rcases hA with e | e
    · rw [e] at hn; exact absurd hn (by simp)
    · exact e
  refine ⟨⟨g, 0, none⟩, hA', fun j p hj => ?_⟩
  obtain ⟨hjl, hje⟩ := List.getElem?_eq_some_iff.mp hj
  obtain ⟨x, o, c, he, h0, h1, h2⟩ := h.row j hjl
  have hp : p = [x, o, c] := by
    rw [← he, List.getD_eq_getElem?_getD, hj]; rfl
  subst hp
  refine ⟨[.slice (some ⟨bb j, 0, none⟩) 3 (cc j)], rfl, ⟨some ⟨bb j, 0, none⟩, cc j, rfl, h.cap j hjl, rfl, by simp, fun _ => ⟨_, rfl, fun i q hq => ⟨[.int .i64 q], rfl, rfl, fun i2 u hu => ?_⟩⟩⟩, fun i u hu => ?_⟩
  · obtain ⟨rfl, rfl⟩ : i2 = 0 ∧ Value.int .i64 q = u := by
      cases i2 with
      | zero => exact ⟨rfl, by simpa using hu⟩
      | succ n => simp at hu
    have ea : ∀ m : Nat, (⟨bb j, 0, none⟩ : Addr).add m = ⟨bb j, m, none⟩ := fun m => by rw [add_plain]
    have es : i * (Kd.int .i64).sz + 0 = i := by rw [show (Kd.int .i64).sz = 1 from rfl]; omega
    rw [es, ea]
    match i, hq with
    | 0, hq => obtain rfl : x = q := by simpa using hq
               exact h0
    | 1, hq => obtain rfl : o = q := by simpa using hq
               exact h1
    | 2, hq => obtain rfl : c = q := by simpa using hq
               exact h2
    | n + 3, hq => simp at hq
  · obtain ⟨rfl, rfl⟩ : i = 0 ∧ Value.slice (some ⟨bb j, 0, none⟩) 3 (cc j) = u := by
      cases i with
      | zero => exact ⟨rfl, by simpa using hu⟩
      | succ n => simp at hu
    have ea : ∀ m : Nat, (⟨g, 0, none⟩ : Addr).add m = ⟨g, m, none⟩ := fun m => by rw [add_plain]
    have es : j * (Kd.slice 3 (Kd.int .i64)).sz + 0 = j := by rw [show (Kd.slice 3 (Kd.int .i64)).sz = 1 from rfl]; omega
    rw [es, ea]
    exact h.cell j hjl
/-- One row is written anew. -/
theorem TabAt.setRow {g : Nat} {bb cc : Nat → Nat} {rows : List (List Int)} {base : Nat} {W : World} (h : TabAt g bb cc rows base W) (k : Nat) (hk : k < rows.length) (x y z : Int) :
    TabAt g bb cc (rows.set k [x, y, z]) base (((W.setCell ⟨bb k, 0, none⟩ (.int .i64 x)).setCell ⟨bb k, 1, none⟩ (.int .i64 y)).setCell ⟨bb k, 2, none⟩ (.int .i64 z)) := by
  obtain ⟨p, o, c, he, h0, h1, h2⟩ := h.row k hk
  have far : ∀ q m : Nat, q ≠ bb k → (((W.setCell ⟨bb k, 0, none⟩ (.int .i64 x)).setCell ⟨bb k, 1, none⟩ (.int .i64 y)).setCell ⟨bb k, 2, none⟩ (.int .i64 z)).cell? ⟨q, m, none⟩ = W.cell? ⟨q, m, none⟩ := by
    intro q m hq
    rw [World.cell?_setCell_far _ _ _ _ (fun e => hq e.symm), World.cell?_setCell_far _ _ _ _ (fun e => hq e.symm), World.cell?_setCell_far _ _ _ _ (fun e => hq e.symm)]
  have hne : ∀ (W : World) (i j : Nat) (v : Value), i ≠ j → (W.setCell ⟨bb k, i, none⟩ v).cell? ⟨bb k, j, none⟩ = W.cell? ⟨bb k, j, none⟩ := fun W i j v hij => World.cell?_setCell_other _ _ _ _ (fun e => hij (congrArg Addr.off e))
  refine ⟨fun j hj => ?_, fun j hj => ?_, fun j hj => h.own j (by simpa using hj), fun j hj q => ?_, fun i j hi hj => h.inj i j (by simpa using hi) (by simpa using hj), fun j hj => h.cap j (by simpa using hj), h.gown⟩
  · rw [List.length_set] at hj
    rw [far g j (Ne.symm (h.own k hk).2)]
    exact h.cell j hj
  · rw [List.length_set] at hj
    by_cases e : j = k
    · subst e
      refine ⟨x, y, z, by simp [List.getD_eq_getElem?_getD, hj], ?_, ?_, ?_⟩
      · rw [hne _ 2 0 _ (by decide), hne _ 1 0 _ (by decide)]
        exact cell_same _ (by rw [h0]; rfl)
      · rw [hne _ 2 1 _ (by decide)]
        exact cell_same _ (by rw [hne _ 0 1 _ (by decide), h1]; rfl)
      · exact cell_same _ (by rw [hne _ 1 2 _ (by decide), hne _ 0 2 _ (by decide), h2]; rfl)
    · obtain ⟨p', o', c', he', h0', h1', h2'⟩ := h.row j hj
      have hbj : bb j ≠ bb k := fun hb => e (h.inj j k hj hk hb)
      refine ⟨p', o', c', ?_, by rw [far _ _ hbj]; exact h0', by rw [far _ _ hbj]; exact h1', by rw [far _ _ hbj]; exact h2'⟩
      rw [List.getD_eq_getElem?_getD, List.getElem?_set_ne (fun hh => e hh.symm), ← List.getD_eq_getElem?_getD]
      exact he'
  · rw [List.length_set] at hj
    rw [World.frozen?_setCell, World.frozen?_setCell, World.frozen?_setCell]
    exact h.froz j hj q
theorem C_one (W : World) (s : ByteArray) (t : TypeId) : Kd.C Kd.string (W.alloc (.cells #[.string s] t)) (some ⟨W.heap.size, 0, none⟩) 1 [s] := by
  refine ⟨rfl, by decide, fun _ => ⟨_, rfl, fun j p hj => ?_⟩⟩
  cases j with
  | zero =>
    obtain rfl : s = p := by simpa using hj
    refine ⟨[.string s], rfl, rfl, fun i u hi => ?_⟩
    cases i with
    | zero =>
      obtain rfl : Value.string s = u := by simpa using hi
      exact (blk_cell (blk_new W _) 0).trans rfl
    | succ i => simp at hi
  | succ j => simp at hj
theorem impl_HintTable.callsT (k : Nat) (a b : Int) (A1 : Option Addr) (c1 : Nat) (l1 : List S31) (a2 : ByteArray) (rows : List (List Int)) (r2 : Bool) (w : World) (hr1 : Kd.C k31 w A1 l1.length l1) (hc1 : l1.length ≤ c1) (h : impl_HintTable.f k a b l1 a2 = some (rows, r2)) :
    Calls Try.prog 27 #[.agg #[.int .i64 a, .int .i64 b], .slice A1 l1.length c1, .string a2] w fun e w' => ∃ (A : Option Addr) (g : Nat) (bb cc : Nat → Nat), e = .returned (.tuple #[.slice A rows.length rows.length, .bool r2]) ∧ (rows = [] ∨ A = some ⟨g, 0, none⟩) ∧ TabAt g bb cc rows w.heap.size w' ∧ Below w.heap.size w w' := by
  have hu28 := Try.underlying23
  unfold impl_HintTable.f at h
  obtain ⟨t, ht, h5⟩ := Option.bind_eq_some_iff.mp h
  clear h
  have hare : ∀ W, Below w.heap.size w W → Calls Try.prog 49 #[.agg #[.int .i64 a, .int .i64 b], .slice A1 l1.length c1] W _ := fun W hW => impl_areHints.calls k a b A1 c1 l1 t W (Kd.C_below hr1 hW) hc1 ht
  have HR := Aside0.mk hr1
  have HC := Aside0.mk hc1
  have HARE := Aside0.mk hare
  have TNIL : ∀ W, TabAt w.heap.size (fun _ => 0) (fun _ => 0) [] w.heap.size W := fun W => ⟨fun k hk => absurd hk (by simp), fun k hk => absurd hk (by simp), fun k hk => absurd hk (by simp), fun k hk => absurd hk (by simp), fun k l hk => absurd hk (by simp), fun k hk => absurd hk (by simp), Nat.le_refl _⟩
  have HTN := Aside0.mk TNIL
  clear hr1 hc1 hare ht TNIL
  cases t with
  | false =>
    rw [if_neg (by decide)] at h5
    obtain ⟨rfl, rfl⟩ := Prod.mk.inj (Option.some.inj h5)
    clear h5
    go_enter Try.func27, Try.ntmps27
    go_wp2_with (first | (go_at_call 49; refine (HARE.out _ (below_alloc (Below.refl _ _) _)).mono ?_; rintro e w1 ⟨rfl, hb⟩; have HB := Aside0.mk (below_then (below_alloc (Below.refl w.heap.size w) _) (by simp) hb); clear hb))
    go_ret2
    exact ⟨none, w.heap.size, _, _, rfl, .inl (by trivial), HTN.out _, HB.out⟩
  | true =>
    rw [if_pos rfl] at h5
    obtain ⟨u, hu, h6⟩ := Option.bind_eq_some_iff.mp h5
    clear h5
    have hhas : ∀ A W, Kd.C Kd.string W A 1 [a2] → Calls Try.prog 67 #[.agg #[.int .i64 a, .int .i64 b], .slice A 1 1] W _ := fun A W hW => impl_has.calls k a b A 1 [a2] u W hW (by simp) hu
    have HHAS := Aside0.mk hhas
    clear hhas hu
    cases u with
    | false =>
      rw [if_neg (by decide)] at h6
      obtain ⟨rfl, rfl⟩ := Prod.mk.inj (Option.some.inj h6)
      clear h6
      go_enter Try.func27, Try.ntmps27
      go_wp2_with (first | (go_at_call 49; refine (HARE.out _ (below_alloc (Below.refl _ _) _)).mono ?_; rintro e w1 ⟨rfl, hb⟩; have HB := Aside0.mk (below_then (below_alloc (Below.refl w.heap.size w) _) (by simp) hb); have BX := Aside0.mk (blk_below (blk_new w _) hb); have hc0 : w1.cell? ⟨w.heap.size, 0, none⟩ = some (.int .i64 a) := (blk_cell (BX.out) 0).trans rfl; have hc1 : w1.cell? ⟨w.heap.size, 1, none⟩ = some (.int .i64 b) := (blk_cell (BX.out) 1).trans rfl; clear hb) | (go_at_call 67; go_loud (refine (HHAS.out _ _ ?hcc).mono ?_; (case hcc => exact C_one _ _ _); rintro e w2 ⟨rfl, hb⟩; have n1 := Aside0.mk (below_then HB.out HB.out.size (below_then (below_alloc (Below.refl w1.heap.size w1) _) (by simp) hb)); clear hb HB; have HB := n1; clear n1)))
      go_ret2
      exact ⟨none, w.heap.size, _, _, rfl, .inl (by trivial), HTN.out _, HB.out⟩
    | true =>
      rw [if_pos rfl] at h6
      obtain ⟨cs, hcs, h7⟩ := Option.bind_eq_some_iff.mp h6
      obtain ⟨rows', hrows, h8⟩ := Option.bind_eq_some_iff.mp h7
      clear h6 h7
      obtain ⟨h81, h82⟩ := Prod.mk.inj (Option.some.inj h8)
      subst h81
      subst h82
      have hfit : ∀ W, Below w.heap.size w W → Calls Try.prog 50 #[.agg #[.int .i64 a, .int .i64 b], .slice A1 l1.length c1] W _ := fun W hW => impl_Lock_fitting.calls k a b A1 c1 l1 cs W (Kd.C_below HR.out hW) HC.out hcs
      have htab : ∀ A c W, Kd.C Kd.string W A cs.length cs → cs.length ≤ c → Calls Try.prog 69 #[.slice A cs.length c, .string a2] W _ := fun A c W hW hc => impl_table.calls k A c cs a2 rows' W hW hc hrows
      have HFIT := Aside0.mk hfit
      have HTAB := Aside0.mk htab
      clear h8 hfit htab hcs hrows
      go_enter Try.func27, Try.ntmps27
      go_wp2_with (first | (go_at_call 49; refine (HARE.out _ (below_alloc (Below.refl _ _) _)).mono ?_; rintro e w1 ⟨rfl, hb⟩; have HB := Aside0.mk (below_then (below_alloc (Below.refl w.heap.size w) _) (by simp) hb); have BX := Aside0.mk (blk_below (blk_new w _) hb); have hc0 : w1.cell? ⟨w.heap.size, 0, none⟩ = some (.int .i64 a) := (blk_cell (BX.out) 0).trans rfl; have hc1 : w1.cell? ⟨w.heap.size, 1, none⟩ = some (.int .i64 b) := (blk_cell (BX.out) 1).trans rfl; clear hb) | (go_at_call 67; go_loud (refine (HHAS.out _ _ ?hcc).mono ?_; (case hcc => exact C_one _ _ _); rintro e w2 ⟨rfl, hb⟩; clear hc0 hc1; have hbb := below_then (below_alloc (Below.refl w1.heap.size w1) _) (by simp) hb; have n1 := Aside0.mk (below_then HB.out HB.out.size hbb); have n2 := Aside0.mk (blk_below BX.out hbb); have hc0 : w2.cell? ⟨w.heap.size, 0, none⟩ = some (.int .i64 a) := (blk_cell (n2.out) 0).trans rfl; have hc1 : w2.cell? ⟨w.heap.size, 1, none⟩ = some (.int .i64 b) := (blk_cell (n2.out) 1).trans rfl; clear hb hbb HB BX; have HB := n1; have BX := n2; clear n1 n2)) | (go_at_call 50; refine (HFIT.out _ HB.out).mono ?_; rintro e w3 ⟨v3, rfl, hr, hb⟩; obtain ⟨A3, c3, e3⟩ := Kd.R_slice hr; subst e3; have HR3 := Aside0.mk hr; have n1 := Aside0.mk (below_then HB.out HB.out.size hb); clear hb HB hr hc0 hc1; have HB := n1; clear n1) | (go_at_call 69; refine (HTAB.out A3 c3 _ (Kd.R_reads' HR3.out).2.2 (Kd.R_reads' HR3.out).2.1).mono ?_; rintro e w4 ⟨A4, g4, bb4, cc4, rfl, h41, h42, h43⟩; have H41 := Aside0.mk h41; have H42 := Aside0.mk (h42.lower HB.out.size); have n1 := Aside0.mk (below_then HB.out HB.out.size h43); clear HB h41 h42 h43; have HB := n1; clear n1))
      go_ret2
      exact ⟨_, _, _, _, rfl, H41.out, H42.out, HB.out⟩
theorem impl_HintTable.f_le {k : Nat} {a b : Int} {l : List S31} {c : ByteArray} {rows : List (List Int)} {r2 : Bool} (h : impl_HintTable.f k a b l c = some (rows, r2)) : rows.length ≤ 1000000 := by
  unfold impl_HintTable.f at h
  obtain ⟨t, ht, h5⟩ := Option.bind_eq_some_iff.mp h
  cases t with
  | false =>
    rw [if_neg (by decide)] at h5
    obtain ⟨rfl, rfl⟩ := Prod.mk.inj (Option.some.inj h5)
    simp
  | true =>
    rw [if_pos rfl] at h5
    obtain ⟨u, hu, h6⟩ := Option.bind_eq_some_iff.mp h5
    cases u with
    | false =>
      rw [if_neg (by decide)] at h6
      obtain ⟨rfl, rfl⟩ := Prod.mk.inj (Option.some.inj h6)
      simp
    | true =>
      rw [if_pos rfl] at h6
      obtain ⟨cs, hcs, h7⟩ := Option.bind_eq_some_iff.mp h6
      obtain ⟨rows', hrows, h8⟩ := Option.bind_eq_some_iff.mp h7
      obtain ⟨h81, h82⟩ := Prod.mk.inj (Option.some.inj h8)
      subst h81
      have := impl_table.f_le hrows
      omega
/-- A table as rows that are read. -/
theorem TabAt.toV {A : Option Addr} {g : Nat} {bb cc : Nat → Nat} {rows : List (List Int)} {base : Nat} {W : World} (h : TabAt g bb cc rows base W) (hA : rows = [] ∨ A = some ⟨g, 0, none⟩) (hl : rows.length ≤ 1000000) (e base' : Nat) : Kd.V (Kd.slice 3 (Kd.int .i64)) e W base' (fun k_ => base ≤ k_) (.slice A rows.length rows.length) rows :=
  ⟨A, rows.length, rfl, Nat.le_refl _, fun W' hW' => (h.move (fun q hb_ hq => hW' q (by rcases hb_ with rfl | ⟨k, hk, rfl⟩; exact h.gown; exact (h.own k hk).1) hq)).reads hA hl⟩
theorem impl_HintTable.calls (k : Nat) (a b : Int) (A1 : Option Addr) (c1 : Nat) (l1 : List S31) (a2 : ByteArray) (rows : List (List Int)) (r2 : Bool) (w : World) (hr1 : Kd.C k31 w A1 l1.length l1) (hc1 : l1.length ≤ c1) (h : impl_HintTable.f k a b l1 a2 = some (rows, r2)) :
    Calls Try.prog 27 #[.agg #[.int .i64 a, .int .i64 b], .slice A1 l1.length c1, .string a2] w fun e w' => ∃ v0_ : Value, e = .returned (.tuple #[v0_, .bool r2]) ∧ Kd.V (Kd.slice 3 (Kd.int .i64)) 48 w' w.heap.size (fun k_ => w.heap.size ≤ k_) v0_ rows ∧ Below w.heap.size w w' :=
  (impl_HintTable.callsT k a b A1 c1 l1 a2 rows r2 w hr1 hc1 h).mono fun e w' ⟨A, g, bb, cc, he, hA, hT, hB⟩ => ⟨_, he, hT.toV hA (impl_HintTable.f_le h) _ _, hB⟩


/-! ### spec_l1Num: function 112 -/
def spec_l1Num.f : Nat → Int → Option (ByteArray)
  | 0, _ => none
  | k + 1, a0 => if a0 < 10 then (some (strOfNums (([(wrap64 (48 + a0)) % 256] : List Int)))) else ((spec_l1Num.f k (wrap64 (Int.tdiv a0 10))).bind fun t197 => ((some (([(wrap64 (48 + (Int.tmod a0 10))) % 256] : List Int) : List Int)).bind fun y198 => (if t197.size + (strOfNums y198).size ≤ 9223372036854775807 then (some (t197 ++ (strOfNums y198))) else (none))))
theorem spec_l1Num.mono_l : ∀ k, (∀ y0, LeO (spec_l1Num.f k y0) (spec_l1Num.f (k + 1) y0))
  | 0 => fun _ r h => by simp [spec_l1Num.f] at h
  | k + 1 => by
    have ih0 := spec_l1Num.mono_l k
    · intro y0
      unfold spec_l1Num.f
      repeat' first
      | (with_reducible first | exact ih0 _ | exact LeO.refl _ | exact LeO.none _ | refine LeO.ite ?_ ?_ | refine LeO.bind ?_ (fun _ => ?_))
      | exact ih0 _
      | exact LeO.none _
      | refine LeO.ite ?_ ?_
      | refine LeO.bind ?_ (fun _ => ?_)
theorem spec_l1Num.mono : ∀ a0 k, LeO (spec_l1Num.f k a0) (spec_l1Num.f (k + 1) a0) := by
  intro a0 k
  have ih0 := spec_l1Num.mono_l k
  exact ih0 a0
def spec_l1Num.T3 : Bool × List (List Nat × List Nat) := (true, [([], []), ([0], [0]), ([1], [1]), ([], []), ([3], [3]), ([4], [4]), ([5], [5]), ([6], [6]), ([7], [7]), ([2, 8], [2, 8]), ([9, 2, 0, 1, 2, 3, 4, 5, 6, 7, 8, 9], [9])])
def spec_l1Num.B3 : List Nat := [0, 1, 3, 0, 8, 24, 56, 120, 248, 511, 1023]
theorem spec_l1Num.tab3 : rtab .any (opsOf Try.f112 3) = spec_l1Num.T3 := by kernel_rfl
theorem spec_l1Num.bits3 : waitsOk spec_l1Num.T3.2 spec_l1Num.B3 = true := by kernel_rfl
theorem spec_l1Num.calls (k : Nat) : ∀ (a0 : Int) (r : ByteArray) (w : World) (h : spec_l1Num.f k a0 = some r),
    Calls Try.prog 112 #[.int .i64 a0] w fun e w' => e = .returned (.string r) ∧ Below w.heap.size w w' := by
  induction k using Nat.strongRecOn with
  | _ k ih =>
  intro a0 r w h
  cases k with
  | zero => exact absurd h (by simp [spec_l1Num.f])
  | succ k =>
  simp only [spec_l1Num.f] at h
  have HB := Aside0.mk (Below.refl w.heap.size w)
  have H : (if a0 < 10 then (some (strOfNums (([(wrap64 (48 + a0)) % 256] : List Int)))) else ((spec_l1Num.f k (wrap64 (Int.tdiv a0 10))).bind fun t197 => ((some (([(wrap64 (48 + (Int.tmod a0 10))) % 256] : List Int) : List Int)).bind fun y198 => (if t197.size + (strOfNums y198).size ≤ 9223372036854775807 then (some (t197 ++ (strOfNums y198))) else (none))))) = some r := h
  clear h
  by_cases c2 : a0 < 10
  · rw [if_pos c2] at H
    have c2b0 : decide (a0 < 10) = true := decide_eq_true c2
    clear c2
    obtain ⟨y194, hy194⟩ : ∃ y_ : List Int, y_ = (([(wrap64 (48 + a0)) % 256] : List Int)) := ⟨_, rfl⟩
    replace H : (some (strOfNums y194)) = some r := hZ hy194 H
    have Ny194 := Aside0.mk hy194
    clear hy194
    obtain rfl := Option.some.inj H
    go_enter Try.func112, Try.ntmps112
    go_wp2_with (first | ((with_reducible refine gate_dst (N := 8) rfl ?_); refine Kd.R_lit (Kd.int .u8) _ 5 ?hg (N := 8) ?hd (xs := ([(wrap64 (48 + a0)) % 256] : List Int)) (inner := [.int .u8 ((wrap64 (48 + a0)) % 256)]) (ok := fun _ => True) (okp := fun _ => True) ?hr ?hp (fun _ hk => hk) trivial (Below.refl _ _) (Nat.le_refl _) (by simp) ?_; (case hd => rfl); (case hg => rfl); (case hr => first | (go_simp; done) | (go_simp; rfl)); (case hp => exact (Reps.one (show Kd.M (Kd.int .u8) _ _ _ ((wrap64 (48 + a0)) % 256) [.int .u8 ((wrap64 (48 + a0)) % 256)] from rfl) (Reps.none _ _))); intro v195 w3 ho4 hb hg_ hnew_; clear hg_ hnew_; (first | rw [← Ny194.out] at ho4 | (simp only [Int.reduceToNat] at ho4; rw [← Ny194.out] at ho4)); have HO196 := Aside0.mk (Kd.R_lower ho4 (below_size bB)); replace HB := Aside0.mk (below_step bB hb); clear hb ho4; have hcv5 := own_string (P := Try.prog) Try.underlying124 Try.underlying5 Try.underlying9 (Kd.own_of_R HO196.out)))
    go_ret
    exact ⟨rE, bB⟩
  · rw [if_neg c2] at H
    have c2b0 : decide (a0 < 10) = false := decide_eq_false c2
    clear c2
    replace H := Option.bind_eq_some_iff.mp H
    obtain ⟨t197, A60, H⟩ := H
    (try dsimp only at H)
    have A6 := Aside0.mk A60
    clear A60
    obtain ⟨y198, hy198⟩ : ∃ y_ : List Int, y_ = (([(wrap64 (48 + (Int.tmod a0 10))) % 256] : List Int)) := ⟨_, rfl⟩
    replace H : (if t197.size + (strOfNums y198).size ≤ 9223372036854775807 then (some (t197 ++ (strOfNums y198))) else (none)) = some r := hZ hy198 H
    have Ny198 := Aside0.mk hy198
    clear hy198
    replace H := nz H; obtain ⟨c7, H⟩ := H
    have c7b0 := eq_true c7
    have c7b1 : decide (t197.size + (strOfNums y198).size ≤ 9223372036854775807) = true := decide_eq_true c7
    try have c7b2 : (9223372036854775807 < t197.size + (strOfNums y198).size) = False := eq_false (Nat.not_lt.2 c7)
    obtain rfl := Option.some.inj H
    go_enter Try.func112, Try.ntmps112
    try go_wp2
    have n0_ := Aside0.mk (below_drew1 HB.out)
    clear HB
    have HB := n0_
    clear n0_
    refine start_ (n := 11) (S := fun w' => True) (ds := []) #[false, false, false, false, false, false, false, false, false, false, false] (by kernel_rfl) rfl rfl trivial (fun hHeld => ?_); refine with_tabW spec_l1Num.tab3 spec_l1Num.bits3 (fun HT_ HW_ => ?_)
    generalize w.drew = w8 at HB hHeld ⊢
    refine pure_ (i := 0) (N := some 10) (v := ?_) (a' := ?_) #[true, false, false, false, false, false, false, false, false, false, false] rfl rfl (any_of HT_.out (by kernel_rfl)) (fun _ _ _ h => h) (Or.inl ⟨by rfl, ?_⟩) ?_ ?_
    rotate_left
    · intro w'
      go_simp
      with_reducible rfl
    rotate_left
    · simp only [Act.put, List.setIfInBounds_toArray, List.set_cons_zero, List.set_cons_succ, i64_w, i32_w]
      rfl
    refine pure_ (i := 1) (N := some 11) (v := ?_) (a' := ?_) #[true, true, false, false, false, false, false, false, false, false, false] rfl rfl (any_of HT_.out (by kernel_rfl)) (fun _ _ _ h => h) (Or.inl ⟨by rfl, ?_⟩) ?_ ?_
    rotate_left
    · intro w'
      go_simp
      with_reducible rfl
    rotate_left
    · simp only [Act.put, List.setIfInBounds_toArray, List.set_cons_zero, List.set_cons_succ, i64_w, i32_w]
      rfl
    refine pure_ (i := 3) (N := some 13) (v := ?_) (a' := ?_) #[true, true, false, true, false, false, false, false, false, false, false] rfl rfl (any_of HT_.out (by kernel_rfl)) (fun _ _ _ h => h) (Or.inl ⟨by rfl, ?_⟩) ?_ ?_
    rotate_left
    · intro w'
      go_simp
      with_reducible rfl
    rotate_left
    · simp only [Act.put, List.setIfInBounds_toArray, List.set_cons_zero, List.set_cons_succ, i64_w, i32_w]
      rfl
    refine pure_ (i := 4) (N := some 14) (v := ?_) (a' := ?_) #[true, true, false, true, true, false, false, false, false, false, false] rfl rfl (any_of HT_.out (by kernel_rfl)) (fun _ _ _ h => h) (Or.inl ⟨by rfl, ?_⟩) ?_ ?_
    rotate_left
    · intro w'
      go_simp
      with_reducible rfl
    rotate_left
    · simp only [Act.put, List.setIfInBounds_toArray, List.set_cons_zero, List.set_cons_succ, i64_w, i32_w]
      rfl
    refine pure_ (i := 5) (N := some 15) (v := ?_) (a' := ?_) #[true, true, false, true, true, true, false, false, false, false, false] rfl rfl (any_of HT_.out (by kernel_rfl)) (fun _ _ _ h => h) (Or.inl ⟨by rfl, ?_⟩) ?_ ?_
    rotate_left
    · intro w'
      go_simp
      with_reducible rfl
    rotate_left
    · simp only [Act.put, List.setIfInBounds_toArray, List.set_cons_zero, List.set_cons_succ, i64_w, i32_w]
      rfl
    refine pure_ (i := 6) (N := some 16) (v := ?_) (a' := ?_) #[true, true, false, true, true, true, true, false, false, false, false] rfl rfl (any_of HT_.out (by kernel_rfl)) (fun _ _ _ h => h) (Or.inl ⟨by rfl, ?_⟩) ?_ ?_
    rotate_left
    · intro w'
      go_simp
      with_reducible rfl
    rotate_left
    · simp only [Act.put, List.setIfInBounds_toArray, List.set_cons_zero, List.set_cons_succ, i64_w, i32_w]
      rfl
    refine join_ (σ := Value) 2 #[true, true, true, true, true, true, true, true, true, false, false] (fun s_ => [(12, .string t197), (17, s_), (18, .string (strOfNums y198))]) (fun s_ w' => (Kd.R (Kd.int .u8) 5 w' w.heap.size (fun _ => True) s_ y198) ∧ (Below w.heap.size w w')) ?_ ?_
    rotate_left
    · intro hCont
      refine two_ (i := 2) (j := 7) (Ni := some 12) (Nj := some 17) #[true, true, true, true, true, true, true, false, false, false, false] #[true, true, false, true, true, true, true, true, false, false, false] rfl rfl rfl rfl (two_of HT_.out (by kernel_rfl)) (by decide) (by decide) (fun K hK => ?_) (fun K hK => ?_)
      · skip
        refine goes_ Try.func112 (by kernel_rfl) rfl #[.int .i64 (wrap64 (Int.tdiv a0 10))] (by rfl) rfl rfl lM ?_
        with_reducible refine (ih k (by omega) (wrap64 (Int.tdiv a0 10)) t197 _ A6.out).mono ?_
        rintro e w9 ⟨rfl, hb⟩
        refine ⟨_, rfl, ?_⟩
        have n0_ := Aside0.mk (below_step bB hb)
        clear HB
        have HB := n0_
        clear n0_
        (try clear hb)
        (try clear hk)
        refine hK.out _ _ trivial (fun hHeld => ?_)
        clear hK K
        refine norm_ (a' := ?_) ?_ ?_
        rotate_left
        · show Act.put _ (some 12) _ = _
          simp only [Act.put, List.setIfInBounds_toArray, List.set_cons_zero, List.set_cons_succ, i64_w, i32_w]
          rfl
        refine one_ (i := 7) (N := some 17) #[true, true, true, true, true, true, true, true, false, false, false] rfl rfl (one_of HT_.out (by kernel_rfl)) (by decide) (fun K hK => ?_)
        refine Kd.R_lit_step (Kd.int .u8) _ 5 ?hg (N := 17) ?hd (xs := ([(wrap64 (48 + (Int.tmod a0 10))) % 256] : List Int)) (inner := [.int .u8 ((wrap64 (48 + (Int.tmod a0 10))) % 256)]) (ok := fun _ => True) (okp := fun _ => True) ?hr ?hp (fun _ hk => hk) trivial (Below.refl _ _) (Nat.le_refl _) (by simp) ?_; (case hd => rfl); (case hg => rfl); (case hr => first | (go_simp; done) | (go_simp; rfl)); (case hp => exact (Reps.one (show Kd.M (Kd.int .u8) _ _ _ ((wrap64 (48 + (Int.tmod a0 10))) % 256) [.int .u8 ((wrap64 (48 + (Int.tmod a0 10))) % 256)] from rfl) (Reps.none _ _)))
        intro v199 w10 ho11 hb hg_ hnew_
        clear hg_ hnew_
        (first | rw [← Ny198.out] at ho11 | (simp only [Int.reduceToNat] at ho11; rw [← Ny198.out] at ho11))
        have n0_ := Aside0.mk (Kd.R_lower ho11 (below_size bB))
        have n1_ := Aside0.mk (below_step bB hb)
        clear HB
        have HO200 := n0_
        have HB := n1_
        clear n0_ n1_
        clear hb ho11
        refine hK.out _ _ trivial (fun hHeld => ?_)
        clear hK K
        refine norm_ (a' := ?_) ?_ ?_
        rotate_left
        · show Act.put _ (some 17) _ = _
          simp only [Act.put, List.setIfInBounds_toArray, List.set_cons_zero, List.set_cons_succ, i64_w, i32_w]
          rfl
        refine one_ (i := 8) (N := some 18) #[true, true, true, true, true, true, true, true, true, false, false] rfl rfl (one_of HT_.out (by kernel_rfl)) (by decide) (fun K hK => ?_)
        have hcv12 := own_string (P := Try.prog) Try.underlying124 Try.underlying5 Try.underlying9 (Kd.own_of_R HO200.out)
        refine value_ (w1 := ?_) (v := ?_) (by rfl) rfl ?_ ?_
        rotate_left 2
        · go_simp
          constructor
          · rfl
          · rfl
        clear hcv12
        refine hK.out _ _ trivial (fun hHeld => ?_)
        clear hK K
        refine norm_ (a' := ?_) ?_ ?_
        rotate_left
        · show Act.put _ (some 18) _ = _
          simp only [Act.put, List.setIfInBounds_toArray, List.set_cons_zero, List.set_cons_succ, i64_w, i32_w]
          rfl
        exact norm_ (by simp only [putAll, Act.put, List.setIfInBounds_toArray, List.set_cons_zero, List.set_cons_succ]) (hCont (v199) _ ⟨(kR HO200), bB⟩)
      · skip
        refine Kd.R_lit_step (Kd.int .u8) _ 5 ?hg (N := 17) ?hd (xs := ([(wrap64 (48 + (Int.tmod a0 10))) % 256] : List Int)) (inner := [.int .u8 ((wrap64 (48 + (Int.tmod a0 10))) % 256)]) (ok := fun _ => True) (okp := fun _ => True) ?hr ?hp (fun _ hk => hk) trivial (Below.refl _ _) (Nat.le_refl _) (by simp) ?_; (case hd => rfl); (case hg => rfl); (case hr => first | (go_simp; done) | (go_simp; rfl)); (case hp => exact (Reps.one (show Kd.M (Kd.int .u8) _ _ _ ((wrap64 (48 + (Int.tmod a0 10))) % 256) [.int .u8 ((wrap64 (48 + (Int.tmod a0 10))) % 256)] from rfl) (Reps.none _ _)))
        intro v199 w9 ho10 hb hg_ hnew_
        clear hg_ hnew_
        (first | rw [← Ny198.out] at ho10 | (simp only [Int.reduceToNat] at ho10; rw [← Ny198.out] at ho10))
        have n0_ := Aside0.mk (Kd.R_lower ho10 (below_size bB))
        have n1_ := Aside0.mk (below_step bB hb)
        clear HB
        have HO200 := n0_
        have HB := n1_
        clear n0_ n1_
        clear hb ho10
        refine hK.out _ _ trivial (fun hHeld => ?_)
        clear hK K
        refine norm_ (a' := ?_) ?_ ?_
        rotate_left
        · show Act.put _ (some 17) _ = _
          simp only [Act.put, List.setIfInBounds_toArray, List.set_cons_zero, List.set_cons_succ, i64_w, i32_w]
          rfl
        refine two_ (i := 2) (j := 8) (Ni := some 12) (Nj := some 18) #[true, true, true, true, true, true, true, true, false, false, false] #[true, true, false, true, true, true, true, true, true, false, false] rfl rfl rfl rfl (two_of HT_.out (by kernel_rfl)) (by decide) (by decide) (fun K hK => ?_) (fun K hK => ?_)
        · skip
          refine goes_ Try.func112 (by kernel_rfl) rfl #[.int .i64 (wrap64 (Int.tdiv a0 10))] (by rfl) rfl rfl lM ?_
          with_reducible refine (ih k (by omega) (wrap64 (Int.tdiv a0 10)) t197 _ A6.out).mono ?_
          rintro e w11 ⟨rfl, hb⟩
          refine ⟨_, rfl, ?_⟩
          have n0_ := Aside0.mk (Kd.R_below (kR HO200) hb)
          have n1_ := Aside0.mk (below_step bB hb)
          clear HO200
          clear HB
          have HO200 := n0_
          have HB := n1_
          clear n0_ n1_
          (try clear hb)
          (try clear hk)
          refine hK.out _ _ trivial (fun hHeld => ?_)
          clear hK K
          refine norm_ (a' := ?_) ?_ ?_
          rotate_left
          · show Act.put _ (some 12) _ = _
            simp only [Act.put, List.setIfInBounds_toArray, List.set_cons_zero, List.set_cons_succ, i64_w, i32_w]
            rfl
          refine one_ (i := 8) (N := some 18) #[true, true, true, true, true, true, true, true, true, false, false] rfl rfl (one_of HT_.out (by kernel_rfl)) (by decide) (fun K hK => ?_)
          have hcv12 := own_string (P := Try.prog) Try.underlying124 Try.underlying5 Try.underlying9 (Kd.own_of_R HO200.out)
          refine value_ (w1 := ?_) (v := ?_) (by rfl) rfl ?_ ?_
          rotate_left 2
          · go_simp
            constructor
            · rfl
            · rfl
          clear hcv12
          refine hK.out _ _ trivial (fun hHeld => ?_)
          clear hK K
          refine norm_ (a' := ?_) ?_ ?_
          rotate_left
          · show Act.put _ (some 18) _ = _
            simp only [Act.put, List.setIfInBounds_toArray, List.set_cons_zero, List.set_cons_succ, i64_w, i32_w]
            rfl
          exact norm_ (by simp only [putAll, Act.put, List.setIfInBounds_toArray, List.set_cons_zero, List.set_cons_succ]) (hCont (v199) _ ⟨(kR HO200), bB⟩)
        · skip
          have hcv11 := own_string (P := Try.prog) Try.underlying124 Try.underlying5 Try.underlying9 (Kd.own_of_R HO200.out)
          refine value_ (w1 := ?_) (v := ?_) (by rfl) rfl ?_ ?_
          rotate_left 2
          · go_simp
            constructor
            · rfl
            · rfl
          clear hcv11
          refine hK.out _ _ trivial (fun hHeld => ?_)
          clear hK K
          refine norm_ (a' := ?_) ?_ ?_
          rotate_left
          · show Act.put _ (some 18) _ = _
            simp only [Act.put, List.setIfInBounds_toArray, List.set_cons_zero, List.set_cons_succ, i64_w, i32_w]
            rfl
          refine one_ (i := 2) (N := some 12) #[true, true, true, true, true, true, true, true, true, false, false] rfl rfl (one_of HT_.out (by kernel_rfl)) (by decide) (fun K hK => ?_)
          refine goes_ Try.func112 (by kernel_rfl) rfl #[.int .i64 (wrap64 (Int.tdiv a0 10))] (by rfl) rfl rfl lM ?_
          with_reducible refine (ih k (by omega) (wrap64 (Int.tdiv a0 10)) t197 _ A6.out).mono ?_
          rintro e w12 ⟨rfl, hb⟩
          refine ⟨_, rfl, ?_⟩
          have n0_ := Aside0.mk (Kd.R_below (kR HO200) hb)
          have n1_ := Aside0.mk (below_step bB hb)
          clear HO200
          clear HB
          have HO200 := n0_
          have HB := n1_
          clear n0_ n1_
          (try clear hb)
          (try clear hk)
          refine hK.out _ _ trivial (fun hHeld => ?_)
          clear hK K
          refine norm_ (a' := ?_) ?_ ?_
          rotate_left
          · show Act.put _ (some 12) _ = _
            simp only [Act.put, List.setIfInBounds_toArray, List.set_cons_zero, List.set_cons_succ, i64_w, i32_w]
            rfl
          exact norm_ (by simp only [putAll, Act.put, List.setIfInBounds_toArray, List.set_cons_zero, List.set_cons_succ]) (hCont (v199) _ ⟨(kR HO200), bB⟩)
    rintro v199 w13 ⟨h0_, h1_⟩
    have n0_ : Aside0 (Kd.R (Kd.int .u8) 5 w13 w.heap.size (fun _ => True) v199 y198) := ⟨h0_⟩
    have n1_ : Aside0 (Below w.heap.size w w13) := ⟨h1_⟩
    clear HB
    clear h0_ h1_
    have HO200 := n0_
    have HB := n1_
    clear n0_ n1_
    have hHeld := trivial
    refine norm_ (a' := ?_) ?_ ?_
    rotate_left
    · simp only [putAll, Act.put, List.setIfInBounds_toArray, List.set_cons_zero, List.set_cons_succ]
      rfl
    refine pure_ (i := 9) (N := some 19) (v := ?_) (a' := ?_) #[true, true, true, true, true, true, true, true, true, true, false] rfl rfl (any_of HT_.out (by kernel_rfl)) (fun _ _ _ h => h) (Or.inl ⟨by rfl, ?_⟩) ?_ ?_
    rotate_left
    · intro w'
      go_simp
      with_reducible rfl
    rotate_left
    · simp only [Act.put, List.setIfInBounds_toArray, List.set_cons_zero, List.set_cons_succ, i64_w, i32_w]
      rfl
    refine pure_ (i := 10) (N := some 2) (v := ?_) (a' := ?_) #[true, true, true, true, true, true, true, true, true, true, true] rfl rfl (any_of HT_.out (by kernel_rfl)) (fun _ _ _ h => h) (Or.inl ⟨by rfl, ?_⟩) ?_ ?_
    rotate_left
    · intro w'
      go_simp
      with_reducible rfl
    rotate_left
    · simp only [Act.put, List.setIfInBounds_toArray, List.set_cons_zero, List.set_cons_succ, i64_w, i32_w]
      rfl
    refine done_ (done_of HT_.out (by kernel_rfl)) ?_
    try go_wp2
    go_ret
    exact ⟨rE, bB⟩

/-! ### spec_whText: function 92 -/
def spec_whText.l0 : Nat → ByteArray → List Int → Int → Int → Option (ByteArray)
  | 0, _, _, _, _ => none
  | k + 1, x3, x6, x7, x8 => if x8 < x7 then (if 0 ≤ x8 then (if x8 < (x6.length : Int) then ((spec_l1Num.f k (rd x6 x8)).bind fun t202 => (if x3.size + t202.size ≤ 9223372036854775807 then (spec_whText.l0 k (x3 ++ t202) x6 x7 (wrap64 (x8 + 1))) else (none))) else (none)) else (none)) else (some x3)
def spec_whText.f (k : Nat) (l0 : List Int) : Option (ByteArray) := spec_whText.l0 k (⟨#[]⟩ : ByteArray) l0 (l0.length : Int) 0
theorem spec_whText.mono_l : ∀ k, (∀ y0 y1 y2 y3, LeO (spec_whText.l0 k y0 y1 y2 y3) (spec_whText.l0 (k + 1) y0 y1 y2 y3))
  | 0 => fun _ _ _ _ r h => by simp [spec_whText.l0] at h
  | k + 1 => by
    have ih0 := spec_whText.mono_l k
    · intro y0 y1 y2 y3
      unfold spec_whText.l0
      repeat' first
      | (with_reducible first | exact ih0 _ _ _ _ | exact spec_l1Num.mono _ _ | exact LeO.refl _ | exact LeO.none _ | refine LeO.ite ?_ ?_ | refine LeO.bind ?_ (fun _ => ?_))
      | exact ih0 _ _ _ _
      | exact spec_l1Num.mono _ _
      | exact LeO.none _
      | refine LeO.ite ?_ ?_
      | refine LeO.bind ?_ (fun _ => ?_)
theorem spec_whText.mono : ∀ a0 k, LeO (spec_whText.f k a0) (spec_whText.f (k + 1) a0) := by
  intro a0 k
  have ih0 := spec_whText.mono_l k
  unfold spec_whText.f
  repeat' first
      | (with_reducible first | exact ih0 _ _ _ _ | exact spec_l1Num.mono _ _ | exact LeO.refl _ | exact LeO.none _ | refine LeO.ite ?_ ?_ | refine LeO.bind ?_ (fun _ => ?_))
      | exact ih0 _ _ _ _
      | exact spec_l1Num.mono _ _
      | exact LeO.none _
      | refine LeO.ite ?_ ?_
      | refine LeO.bind ?_ (fun _ => ?_)
theorem spec_whText.calls (k : Nat) (A0 : Option Addr) (c0 : Nat) (l0 : List Int) (r : ByteArray) (w : World) (hr0 : Kd.C (Kd.int .i64) w A0 l0.length l0) (hc0 : l0.length ≤ c0) (h : spec_whText.f k l0 = some r) :
    Calls Try.prog 92 #[.slice A0 l0.length c0] w fun e w' => e = .returned (.string r) ∧ Below w.heap.size w w' := by
  have HR0 := Aside0.mk hr0
  have HC0 := Aside0.mk hc0
  clear hr0 hc0
  have HB := Aside0.mk (Below.refl w.heap.size w)
  have H := h
  unfold spec_whText.f at H
  clear h
  have H' := Aside0.mk H
  clear H
  go_enter Try.func92, Try.ntmps92
  go_wp2
  go_loopg [3, 8] k (fun kq v3 v8 w' => ∃ (x3_1 : ByteArray) (x8_1 : Int), v3 = .string x3_1 ∧ v8 = .int .i64 x8_1 ∧ Aside0 (spec_whText.l0 kq x3_1 l0 (l0.length : Int) x8_1 = some r) ∧ Aside0 (kq ≤ k) ∧ Aside0 (Below w.heap.size w w'))
  case atStart => exact ⟨((⟨#[]⟩ : ByteArray)), (0), fR, fR, H', ⟨Nat.le_refl _⟩, ⟨bB⟩⟩
  case round =>
    clear H'
    obtain ⟨x3_1, x8_1, rfl, rfl, HA, HK1, HB⟩ := hrel
    cases gk with
    | zero => exact absurd HA.out (by simp [spec_whText.l0])
    | succ k1 =>
      have H := HA.out
      clear HA
      simp only [spec_whText.l0] at H
      by_cases c2 : x8_1 < (l0.length : Int)
      · rw [if_pos c2] at H
        have c2b0 : decide (x8_1 < (l0.length : Int)) = true := decide_eq_true c2
        clear c2
        replace H := nz H; obtain ⟨c3, H⟩ := H
        have c3b0 : decide (0 ≤ x8_1) = true := decide_eq_true c3
        clear c3
        replace H := nz H; obtain ⟨c4, H⟩ := H
        have c4b0 : decide (x8_1 < (l0.length : Int)) = true := decide_eq_true c4
        clear c4
        replace H := Option.bind_eq_some_iff.mp H
        obtain ⟨t202, A50, H⟩ := H
        (try dsimp only at H)
        have A5 := Aside0.mk A50
        clear A50
        replace H := nz H; obtain ⟨c6, H⟩ := H
        have c6b0 := eq_true c6
        have c6b1 : decide (x3_1.size + t202.size ≤ 9223372036854775807) = true := decide_eq_true c6
        try have c6b2 : (9223372036854775807 < x3_1.size + t202.size) = False := eq_false (Nat.not_lt.2 c6)
        have H' := Aside0.mk H
        clear H
        have p201 : 0 ≤ (x8_1 : Int) := oD
        have q201 : x8_1 < (l0.length : Int) := oD
        obtain ⟨ad201, e201, hx201_0⟩ := Kd.at_int HR0.out x8_1 p201 q201
        cases e201
        replace hx201_0 := (HB.out.cell (World.block_lt_of_cell? w _ hx201_0)).trans hx201_0
        replace p201 := eq_true p201
        replace q201 := eq_true q201
        go_wp2_with (first | ((with_reducible refine gate_callee (f := 112) rfl ?_); refine goesL_ (some 14) rfl rfl Try.func112 (by kernel_rfl) rfl #[.int .i64 (rd l0 x8_1)] rfl lM ?_; (with_reducible refine (spec_l1Num.calls k1 (rd l0 x8_1) t202 _ A5.out).mono ?_); rintro e w7 ⟨rfl, hb⟩; refine ⟨_, rfl, ?_⟩; replace HB := Aside0.mk (below_step bB hb); (try clear hb)))
        go_roundg k1
        case measure => have := HK1.out; omega
        case rel => exact ⟨(x3_1 ++ t202), (wrap64 (x8_1 + 1)), fR, fR, H', ⟨by have := HK1.out; omega⟩, ⟨bB⟩⟩
      · rw [if_neg c2] at H
        have c2b0 : decide (x8_1 < (l0.length : Int)) = false := decide_eq_false c2
        clear c2
        obtain rfl := Option.some.inj H
        go_wp2
        go_ret
        exact ⟨rE, bB⟩

/-! ### spec_whOf: function 63 -/
def spec_whOf.l0 : Nat → Int → List Int → Int → Int → Int → Option (ByteArray)
  | 0, _, _, _, _, _ => none
  | k + 1, x1, x5, x6, x204000, x204001 => if x6 ≥ 0 then (if x204001 = 0 then (none) else (if 0 ≤ x6 then (if x6 < (x5.length : Int) then (spec_whOf.l0 k (wrap64 (Int.tdiv x1 x204001)) (x5.set (x6 : Int).toNat (Int.tmod x1 x204001)) (wrap64 (x6 - 1)) x204000 x204001) else (none)) else (none))) else ((spec_whText.f k x5).bind fun t208 => (some t208))
def spec_whOf.f (k : Nat) (a0_0 : Int) (a0_1 : Int) (a1 : Int) : Option (ByteArray) := if 0 ≤ a0_0 then (if (a0_0 : Int).toNat ≤ 35184372088832 then (spec_whOf.l0 k a1 (List.replicate (a0_0 : Int).toNat 0) (wrap64 (a0_0 - 1)) a0_0 a0_1) else (none)) else (none)
theorem spec_whOf.mono_l : ∀ k, (∀ y0 y1 y2 y3 y4, LeO (spec_whOf.l0 k y0 y1 y2 y3 y4) (spec_whOf.l0 (k + 1) y0 y1 y2 y3 y4))
  | 0 => fun _ _ _ _ _ r h => by simp [spec_whOf.l0] at h
  | k + 1 => by
    have ih0 := spec_whOf.mono_l k
    · intro y0 y1 y2 y3 y4
      unfold spec_whOf.l0
      repeat' first
      | (with_reducible first | exact ih0 _ _ _ _ _ | exact spec_whText.mono _ _ | exact LeO.refl _ | exact LeO.none _ | refine LeO.ite ?_ ?_ | refine LeO.bind ?_ (fun _ => ?_))
      | exact ih0 _ _ _ _ _
      | exact spec_whText.mono _ _
      | exact LeO.none _
      | refine LeO.ite ?_ ?_
      | refine LeO.bind ?_ (fun _ => ?_)
theorem spec_whOf.mono : ∀ a0 a1 a2 k, LeO (spec_whOf.f k a0 a1 a2) (spec_whOf.f (k + 1) a0 a1 a2) := by
  intro a0 a1 a2 k
  have ih0 := spec_whOf.mono_l k
  unfold spec_whOf.f
  repeat' first
      | (with_reducible first | exact ih0 _ _ _ _ _ | exact spec_whText.mono _ _ | exact LeO.refl _ | exact LeO.none _ | refine LeO.ite ?_ ?_ | refine LeO.bind ?_ (fun _ => ?_))
      | exact ih0 _ _ _ _ _
      | exact spec_whText.mono _ _
      | exact LeO.none _
      | refine LeO.ite ?_ ?_
      | refine LeO.bind ?_ (fun _ => ?_)
theorem spec_whOf.calls (k : Nat) (a0_0 : Int) (a0_1 : Int) (a1 : Int) (r : ByteArray) (w : World) (h : spec_whOf.f k a0_0 a0_1 a1 = some r) :
    Calls Try.prog 63 #[.agg #[.int .i64 a0_0, .int .i64 a0_1], .int .i64 a1] w fun e w' => e = .returned (.string r) ∧ Below w.heap.size w w' := by
  have hu23 := Try.underlying23
  have HB := Aside0.mk (Below.refl w.heap.size w)
  have H := h
  unfold spec_whOf.f at H
  clear h
  replace H := nz H; obtain ⟨c3, H⟩ := H
  have c3b0 := eq_true c3
  have c3b1 : decide (0 ≤ a0_0) = true := decide_eq_true c3
  clear c3
  replace H := nz H; obtain ⟨c4, H⟩ := H
  have c4b0 := eq_true c4
  have c4b1 : decide ((a0_0 : Int).toNat ≤ 35184372088832) = true := decide_eq_true c4
  clear c4
  obtain ⟨y204, hy204⟩ : ∃ y_ : List Int, y_ = (List.replicate (a0_0 : Int).toNat 0) := ⟨_, rfl⟩
  replace H : (spec_whOf.l0 k a1 y204 (wrap64 (a0_0 - 1)) a0_0 a0_1) = some r := hZ hy204 H
  have Ny204 := Aside0.mk hy204
  clear hy204
  have H' := Aside0.mk H
  clear H
  go_enter Try.func63, Try.ntmps63
  go_wp2_with (first | ((with_reducible refine gate_dst (N := 2) rfl ?_); refine box_event ?hg (N := 2) ?hd (cs := #[.int .i64 a0_0, .int .i64 a0_1]) (t := 23) ?hr ?_; (case hd => rfl); (case hg => rfl); (case hr => first | (go_simp; done) | (go_simp; rfl)); intro gb203 hg w5 hbox hb; have BK203 := Aside0.mk (hbox); have GW203 : Aside0 (w.heap.size ≤ gb203) := gW hg; have GE203 := GW203; replace HB := Aside0.mk (below_step bB hb); clear hb hbox hg; have hcz6_0 := cZ BK203 0 (.int .i64 a0_0); have hcz6_1 := cZ BK203 1 (.int .i64 a0_1); have hfz6_0 := blk_frozen BK203.out 0; have hfz6_1 := blk_frozen BK203.out 1) | ((with_reducible refine gate_dst (N := 9) rfl ?_); refine Kd.R_make (Kd.int .i64) _ 3 rfl (N := 9) rfl 48 _ _ rfl a0_0 rfl rfl Try.underlying48 (.int .i64 0) 8 info3 rfl (by decide) (by omega) 0 (ok := fun _ => True) (okp := fun _ => True) rfl (fun _ hk => hk) trivial (oD) (Nat.le_trans (Nat.mul_le_mul_right _ (oD : a0_0.toNat ≤ 35184372088832)) (by omega)) (Below.refl _ _) (Nat.le_refl _) ?_; intro v205 w7 ho8 hb hg_ hnew_; clear hg_ hnew_; (first | rw [← Ny204.out] at ho8 | (simp only [Int.reduceToNat] at ho8; rw [← Ny204.out] at ho8)); have HO206 := Aside0.mk (Kd.R_lower ho8 (below_size bG)); replace BK203 := bW BK203 hb; replace HB := Aside0.mk (below_step bG hb); clear hb ho8; have hcz9_0 := cZ BK203 0 (.int .i64 a0_0); have hcz9_1 := cZ BK203 1 (.int .i64 a0_1); have hfz9_0 := blk_frozen BK203.out 0; have hfz9_1 := blk_frozen BK203.out 1))
  go_loopg [1, 6] k (fun kq v1 v6 w' => ∃ (x1_1 : Int) (x5_1 : List Int) (x6_1 : Int), v1 = .int .i64 x1_1 ∧ v6 = .int .i64 x6_1 ∧ Aside0 (spec_whOf.l0 kq x1_1 x5_1 x6_1 a0_0 a0_1 = some r) ∧ Aside0 (kq ≤ k) ∧ Aside0 (Kd.R (Kd.int .i64) 3 w' w.heap.size (fun _ => True) v205 x5_1) ∧ Aside0 (w'.heap[gb203]? = some (.cells #[.int .i64 a0_0, .int .i64 a0_1] 23 (0, 0))) ∧ Aside0 (Below w.heap.size w w'))
  case atStart => exact ⟨(a1), (y204), (wrap64 (a0_0 - 1)), fR, fR, H', ⟨Nat.le_refl _⟩, ⟨kR HO206⟩, ⟨bK⟩, ⟨bG⟩⟩
  case round =>
    clear H'
    try clear p2
    try clear c3
    try clear c3b0
    try clear c3b1
    try clear c4
    try clear c4b0
    try clear c4b1
    try clear c6
    try clear p6
    try clear hcz6_0
    try clear hcz6_1
    try clear hcz9_0
    try clear hcz9_1
    try clear hfz6_0
    try clear hfz6_1
    try clear hfz9_0
    try clear hfz9_1
    obtain ⟨x1_1, x5_1, x6_1, rfl, rfl, HA, HK1, HO_5, BK203, HB⟩ := hrel
    cases gk with
    | zero => exact absurd HA.out (by simp [spec_whOf.l0])
    | succ k1 =>
      have H := HA.out
      clear HA
      simp only [spec_whOf.l0] at H
      by_cases c10 : x6_1 ≥ 0
      · rw [if_pos c10] at H
        have c10b0 : decide (0 ≤ x6_1) = true := decide_eq_true c10
        clear c10
        replace H := nz' H; obtain ⟨c11, H⟩ := H
        have c11b0 : (a0_1 == 0) = false := beq_eq_false_iff_ne.mpr c11
        have c11b1 : (a0_1 != 0) = true := bne_iff_ne.mpr c11
        replace H := nz H; obtain ⟨c12, H⟩ := H
        have c12b0 : decide (0 ≤ x6_1) = true := decide_eq_true c12
        clear c12
        replace H := nz H; obtain ⟨c13, H⟩ := H
        have c13b0 : decide (x6_1 < (x5_1.length : Int)) = true := decide_eq_true c13
        clear c13
        obtain ⟨y207, hy207⟩ : ∃ y_ : List Int, y_ = (x5_1.set (x6_1 : Int).toNat (Int.tmod x1_1 a0_1)) := ⟨_, rfl⟩
        replace H : (spec_whOf.l0 k1 (wrap64 (Int.tdiv x1_1 a0_1)) y207 (wrap64 (x6_1 - 1)) a0_0 a0_1) = some r := hZ hy207 H
        have Ny207 := Aside0.mk hy207
        clear hy207
        have H' := Aside0.mk H
        clear H
        have hcz15_0 := cZ BK203 0 (.int .i64 a0_0)
        have hcz15_1 := cZ BK203 1 (.int .i64 a0_1)
        have hfz15_0 := blk_frozen BK203.out 0
        have hfz15_1 := blk_frozen BK203.out 1
        have p14 : 0 ≤ (x6_1 : Int) := oD
        have q14 : (x6_1 : Int) < ((x5_1.length : Int) : Int) := oD
        obtain ⟨go14, co14, eo14, gb14, gl14, cl14, HG14⟩ := Kd.R_form HO_5.out (by omega)
        (first | cases eo14 | (injection eo14 with ea_ en_ ec_; (first | subst ea_ | (injection ea_ with ea_; subst ea_)); subst ec_; clear en_))
        have GB14 := Aside0.mk gb14
        have GG14 := Aside0.mk HG14
        clear gb14 gl14 HG14
        obtain ⟨hx14_0, hf14_0⟩ := Kd.R_celln 0 HO_5.out (x6_1 : Int) p14 q14
        replace p14 := eq_true p14
        replace q14 := eq_true q14
        have HP16 := Kd.R_putg HO_5.out (x6_1 : Int) (Int.tmod x1_1 a0_1)
        go_wp2_with (first | ((with_reducible refine gate_store (t := 3) (p := 23) rfl ?_); refine store_event (t := 3) (p := 23) (v := ?vo_w17) (w1 := (wr.setCell ⟨go14, (x6_1 : Int).toNat, none⟩ (.int .i64 (Int.tmod x1_1 a0_1)))) ?hg ?ho ?hn ?hr ?_; (case ho => rfl); (case hg => rfl); (case hn => rfl); (case hr => first | (go_simp; done) | (go_simp; rfl)); intro w17 hw; have hg : wr.grownBy w17 (some go14) := (by rw [hw]; exact HP16.2); have hp_ : Kd.R (Kd.int .i64) 3 w17 w.heap.size (fun _ => True) (.slice (some ⟨go14, 0, none⟩) x5_1.length co14) y207 := (by rw [hw, Ny207.out]; exact HP16.1); clear HP16; replace BK203 := Aside0.mk (blk_grown (g := gb203) (o := .cells #[.int .i64 a0_0, .int .i64 a0_1] 23 (0, 0)) bK hg (Kd.R_ne HO_5.out BK203.out (by decide))); replace HO_5 := Aside0.mk (hp_); replace HB := Aside0.mk ((by rw [hw]; exact below_set (HB.out) GB14.out : Below w.heap.size w w17)); clear hg hw hp_; have hcz18_0 := cZ BK203 0 (.int .i64 a0_0); have hcz18_1 := cZ BK203 1 (.int .i64 a0_1); have hfz18_0 := blk_frozen BK203.out 0; have hfz18_1 := blk_frozen BK203.out 1))
        go_roundg k1
        case measure => have := HK1.out; omega
        case rel => exact ⟨(wrap64 (Int.tdiv x1_1 a0_1)), (y207), (wrap64 (x6_1 - 1)), fR, fR, H', ⟨by have := HK1.out; omega⟩, ⟨kR HO_5⟩, ⟨bK⟩, ⟨bG⟩⟩
      · rw [if_neg c10] at H
        have c10b0 : decide (0 ≤ x6_1) = false := decide_eq_false c10
        clear c10
        replace H := Option.bind_eq_some_iff.mp H
        obtain ⟨t208, A190, H⟩ := H
        (try dsimp only at H)
        have A19 := Aside0.mk A190
        clear A190
        obtain rfl := Option.some.inj H
        obtain ⟨Ao20, co20, eo20⟩ := Kd.R_slice HO_5.out
        subst eo20
        go_wp2_with (first | ((with_reducible refine gate_callee (f := 92) rfl ?_); refine goesL_ (some 29) rfl rfl Try.func92 (by kernel_rfl) rfl #[.slice Ao20 x5_1.length co20] rfl lM ?_; (with_reducible refine (spec_whText.calls k1 _ _ x5_1 t208 _ ?side1 ?side2 A19.out).mono ?_); (case side1 => exact cS ((Kd.R_reads' HO_5.out).2.2)); (case side2 => exact (Kd.R_reads' HO_5.out).2.1); rintro e w21 ⟨rfl, hb⟩; refine ⟨_, rfl, ?_⟩; replace HO_5 := Aside0.mk (Kd.R_below (kR HO_5) hb); replace BK203 := bW BK203 hb; replace HB := Aside0.mk (below_step bG hb); (try clear hb)))
        go_ret
        exact ⟨rE, bG⟩

end Go.Proofs.Ytcpnmiempaofdaa.F
