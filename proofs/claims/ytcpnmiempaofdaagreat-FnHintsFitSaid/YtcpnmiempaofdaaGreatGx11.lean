-- Printed by hp.py, a program of this session: a machine's side of laws, out of the translation; Lean checks it.
import Derived.Test.YtcpnmiempaofdaaGreatGx0
import Derived.Test.YtcpnmiempaofdaaGreatGx1
import Derived.Test.YtcpnmiempaofdaaGreatGx2
import Derived.Test.YtcpnmiempaofdaaGreatGx3
import Derived.Test.YtcpnmiempaofdaaGreatGx10
namespace Go.Proofs.YtcpnmiempaofdaaGreat.G
open Go.RowKit Go.Proofs.YtcpnmiempaofdaaGreatW.PrintWords Go.Proofs.YtcpnmiempaofdaaGreatW.PrintLast Go.Proofs.YtcpnmiempaofdaaGreatW.PrintMore
attribute [local go_sem] max2_int min2_int max_two min_two max_three min_three max_four min_four   -- for this text's walks alone
set_option maxHeartbeats 8000000
set_option maxRecDepth 100000
set_option linter.unusedVariables false
set_option linter.unusedSimpArgs false

/-! ### impl_HintTable: function 33 -/
def impl_HintTable.f (k : Nat) (a b : Int) (l : List S35) (c : ByteArray) : Option (List (List Int) × Bool) :=
  (impl_areHints.f k a b l).bind fun t => if t = true then
    ((impl_has.f k a b [c]).bind fun u => if u = true then
      ((impl_Lock_fitting.f k a b l).bind fun cs => (impl_table.f k cs c).bind fun rows => some (rows, true))
    else some ([], false))
  else some ([], false)
theorem impl_HintTable.mono : ∀ a b l c k, LeO (impl_HintTable.f k a b l c) (impl_HintTable.f (k + 1) a b l c) := fun a b l c k =>
  LeO.bind (impl_areHints.mono _ _ _ _) (fun t => LeO.ite (LeO.bind (impl_has.mono _ _ _ _) (fun u => LeO.ite (LeO.bind (impl_Lock_fitting.mono _ _ _ _) (fun cs => LeO.bind (impl_table.mono _ _ _) (fun r => LeO.refl _))) (LeO.refl _))) (LeO.refl _))
theorem cell_lt {W : World} {q y : Nat} {v : Value} (h : W.cell? ⟨q, y, none⟩ = some v) : q < W.heap.size := by
  by_cases hq : q < W.heap.size
  · exact hq
  · unfold World.cell? at h
    rw [Array.getElem?_eq_none (by simpa using hq)] at h
    simp at h
theorem TabAt.lower {g : Nat} {bb cc : Nat → Nat} {rows : List (List Int)} {base base' : Nat} {W : World} (h : TabAt g bb cc rows base W) (hb : base' ≤ base) : TabAt g bb cc rows base' W :=
  ⟨h.cell, h.row, fun k hk => ⟨Nat.le_trans hb (h.own k hk).1, (h.own k hk).2⟩, h.froz, h.inj, h.cap, Nat.le_trans hb h.gown⟩
theorem TabAt.move {g : Nat} {bb cc : Nat → Nat} {rows : List (List Int)} {base : Nat} {W W' : World} (h : TabAt g bb cc rows base W) (hm : ∀ q, (q = g ∨ ∃ k, k < rows.length ∧ q = bb k) → q < W.heap.size → W'.heap[q]? = W.heap[q]?) : TabAt g bb cc rows base W' := by
  have hb : ∀ k, k < rows.length → bb k < W.heap.size := fun k hk => by
    obtain ⟨p, o, c, _, h0, _, _⟩ := h.row k hk
    exact cell_lt h0
  refine ⟨fun k hk => ?_, fun k hk => ?_, h.own, fun k hk y => ?_, h.inj, h.cap, h.gown⟩
  · exact (World.cell?_of_block (hm g (.inl rfl) (cell_lt (h.cell k hk)))).trans (h.cell k hk)
  · obtain ⟨p, o, c, he, h0, h1, h2⟩ := h.row k hk
    have hq := hm (bb k) (.inr ⟨k, hk, rfl⟩) (hb k hk)
    exact ⟨p, o, c, he, (World.cell?_of_block hq).trans h0, (World.cell?_of_block hq).trans h1, (World.cell?_of_block hq).trans h2⟩
  · exact (World.frozen?_of_block (hm (bb k) (.inr ⟨k, hk, rfl⟩) (hb k hk))).trans (h.froz k hk y)
theorem TabAt.below {g : Nat} {bb cc : Nat → Nat} {rows : List (List Int)} {base : Nat} {W W' : World} (h : TabAt g bb cc rows base W) (hb : Below W.heap.size W W') : TabAt g bb cc rows base W' :=
  h.move (fun q _ hq => hb.block q hq)
theorem TabAt.drewN {g : Nat} {bb cc : Nat → Nat} {rows : List (List Int)} {base : Nat} {W : World} (h : TabAt g bb cc rows base W) (n : Nat) : TabAt g bb cc rows base (W.drewN n) :=
  h.move (fun q _ _ => rfl)
/-- As rows that are read. -/
theorem TabAt.reads {A : Option Addr} {g : Nat} {bb cc : Nat → Nat} {rows : List (List Int)} {base : Nat} {W : World} (h : TabAt g bb cc rows base W) (hA : rows = [] ∨ A = some ⟨g, 0, none⟩) (hl : rows.length ≤ 1000000) : Kd.C (Kd.slice 3 (Kd.int .i64)) W A rows.length rows := by
  refine ⟨rfl, by omega, fun hn => ?_⟩
  have hA' : A = some ⟨g, 0, none⟩ := by
    rcases hA with e | e
    · rw [e] at hn; exact absurd hn (by simp)
    · exact e
  refine ⟨⟨g, 0, none⟩, hA', fun j p hj => ?_⟩
  obtain ⟨hjl, hje⟩ := List.getElem?_eq_some_iff.mp hj
  obtain ⟨x, o, c, he, h0, h1, h2⟩ := h.row j hjl
  have hp : p = [x, o, c] := by
    rw [← he, List.getD_eq_getElem?_getD, hj]; rfl
  subst hp
  refine ⟨[.slice (some ⟨bb j, 0, none⟩) 3 (cc j)], rfl, ⟨some ⟨bb j, 0, none⟩, cc j, rfl, h.cap j hjl, rfl, by simp, fun _ => ⟨_, rfl, fun i q hq => ⟨[.int .i64 q], rfl, rfl, fun i2 u hu => ?_⟩⟩⟩, fun i u hu => ?_⟩
  · obtain ⟨rfl, rfl⟩ : i2 = 0 ∧ Value.int .i64 q = u := by
      cases i2 with
      | zero => exact ⟨rfl, by simpa using hu⟩
      | succ n => simp at hu
    have ea : ∀ m : Nat, (⟨bb j, 0, none⟩ : Addr).add m = ⟨bb j, m, none⟩ := fun m => by rw [add_plain]
    have es : i * (Kd.int .i64).sz + 0 = i := by rw [show (Kd.int .i64).sz = 1 from rfl]; omega
    rw [es, ea]
    match i, hq with
    | 0, hq => obtain rfl : x = q := by simpa using hq
               exact h0
    | 1, hq => obtain rfl : o = q := by simpa using hq
               exact h1
    | 2, hq => obtain rfl : c = q := by simpa using hq
               exact h2
    | n + 3, hq => simp at hq
  · obtain ⟨rfl, rfl⟩ : i = 0 ∧ Value.slice (some ⟨bb j, 0, none⟩) 3 (cc j) = u := by
      cases i with
      | zero => exact ⟨rfl, by simpa using hu⟩
      | succ n => simp at hu
    have ea : ∀ m : Nat, (⟨g, 0, none⟩ : Addr).add m = ⟨g, m, none⟩ := fun m => by rw [add_plain]
    have es : j * (Kd.slice 3 (Kd.int .i64)).sz + 0 = j := by rw [show (Kd.slice 3 (Kd.int .i64)).sz = 1 from rfl]; omega
    rw [es, ea]
    exact h.cell j hjl
/-- One row is written anew. -/
theorem TabAt.setRow {g : Nat} {bb cc : Nat → Nat} {rows : List (List Int)} {base : Nat} {W : World} (h : TabAt g bb cc rows base W) (k : Nat) (hk : k < rows.length) (x y z : Int) :
    TabAt g bb cc (rows.set k [x, y, z]) base (((W.setCell ⟨bb k, 0, none⟩ (.int .i64 x)).setCell ⟨bb k, 1, none⟩ (.int .i64 y)).setCell ⟨bb k, 2, none⟩ (.int .i64 z)) := by
  obtain ⟨p, o, c, he, h0, h1, h2⟩ := h.row k hk
  have far : ∀ q m : Nat, q ≠ bb k → (((W.setCell ⟨bb k, 0, none⟩ (.int .i64 x)).setCell ⟨bb k, 1, none⟩ (.int .i64 y)).setCell ⟨bb k, 2, none⟩ (.int .i64 z)).cell? ⟨q, m, none⟩ = W.cell? ⟨q, m, none⟩ := by
    intro q m hq
    rw [World.cell?_setCell_far _ _ _ _ (fun e => hq e.symm), World.cell?_setCell_far _ _ _ _ (fun e => hq e.symm), World.cell?_setCell_far _ _ _ _ (fun e => hq e.symm)]
  have hne : ∀ (W : World) (i j : Nat) (v : Value), i ≠ j → (W.setCell ⟨bb k, i, none⟩ v).cell? ⟨bb k, j, none⟩ = W.cell? ⟨bb k, j, none⟩ := fun W i j v hij => World.cell?_setCell_other _ _ _ _ (fun e => hij (congrArg Addr.off e))
  refine ⟨fun j hj => ?_, fun j hj => ?_, fun j hj => h.own j (by simpa using hj), fun j hj q => ?_, fun i j hi hj => h.inj i j (by simpa using hi) (by simpa using hj), fun j hj => h.cap j (by simpa using hj), h.gown⟩
  · rw [List.length_set] at hj
    rw [far g j (Ne.symm (h.own k hk).2)]
    exact h.cell j hj
  · rw [List.length_set] at hj
    by_cases e : j = k
    · subst e
      refine ⟨x, y, z, by simp [List.getD_eq_getElem?_getD, hj], ?_, ?_, ?_⟩
      · rw [hne _ 2 0 _ (by decide), hne _ 1 0 _ (by decide)]
        exact cell_same _ (by rw [h0]; rfl)
      · rw [hne _ 2 1 _ (by decide)]
        exact cell_same _ (by rw [hne _ 0 1 _ (by decide), h1]; rfl)
      · exact cell_same _ (by rw [hne _ 1 2 _ (by decide), hne _ 0 2 _ (by decide), h2]; rfl)
    · obtain ⟨p', o', c', he', h0', h1', h2'⟩ := h.row j hj
      have hbj : bb j ≠ bb k := fun hb => e (h.inj j k hj hk hb)
      refine ⟨p', o', c', ?_, by rw [far _ _ hbj]; exact h0', by rw [far _ _ hbj]; exact h1', by rw [far _ _ hbj]; exact h2'⟩
      rw [List.getD_eq_getElem?_getD, List.getElem?_set_ne (fun hh => e hh.symm), ← List.getD_eq_getElem?_getD]
      exact he'
  · rw [List.length_set] at hj
    rw [World.frozen?_setCell, World.frozen?_setCell, World.frozen?_setCell]
    exact h.froz j hj q
theorem C_one (W : World) (s : ByteArray) (t : TypeId) : Kd.C Kd.string (W.alloc (.cells #[.string s] t)) (some ⟨W.heap.size, 0, none⟩) 1 [s] := by
  refine ⟨rfl, by decide, fun _ => ⟨_, rfl, fun j p hj => ?_⟩⟩
  cases j with
  | zero =>
    obtain rfl : s = p := by simpa using hj
    refine ⟨[.string s], rfl, rfl, fun i u hi => ?_⟩
    cases i with
    | zero =>
      obtain rfl : Value.string s = u := by simpa using hi
      exact (blk_cell (blk_new W _) 0).trans rfl
    | succ i => simp at hi
  | succ j => simp at hj
theorem impl_HintTable.callsT (k : Nat) (a b : Int) (A1 : Option Addr) (c1 : Nat) (l1 : List S35) (a2 : ByteArray) (rows : List (List Int)) (r2 : Bool) (w : World) (hr1 : Kd.C k35 w A1 l1.length l1) (hc1 : l1.length ≤ c1) (h : impl_HintTable.f k a b l1 a2 = some (rows, r2)) :
    Calls Tryz.prog 33 #[.agg #[.int .i64 a, .int .i64 b], .slice A1 l1.length c1, .string a2] w fun e w' => ∃ (A : Option Addr) (g : Nat) (bb cc : Nat → Nat), e = .returned (.tuple #[.slice A rows.length rows.length, .bool r2]) ∧ (rows = [] ∨ A = some ⟨g, 0, none⟩) ∧ TabAt g bb cc rows w.heap.size w' ∧ Below w.heap.size w w' := by
  have hu28 := Tryz.underlying25
  unfold impl_HintTable.f at h
  obtain ⟨t, ht, h5⟩ := Option.bind_eq_some_iff.mp h
  clear h
  have hare : ∀ W, Below w.heap.size w W → Calls Tryz.prog 57 #[.agg #[.int .i64 a, .int .i64 b], .slice A1 l1.length c1] W _ := fun W hW => impl_areHints.calls k a b A1 c1 l1 t W (Kd.C_below hr1 hW) hc1 ht
  have HR := Aside0.mk hr1
  have HC := Aside0.mk hc1
  have HARE := Aside0.mk hare
  have TNIL : ∀ W, TabAt w.heap.size (fun _ => 0) (fun _ => 0) [] w.heap.size W := fun W => ⟨fun k hk => absurd hk (by simp), fun k hk => absurd hk (by simp), fun k hk => absurd hk (by simp), fun k hk => absurd hk (by simp), fun k l hk => absurd hk (by simp), fun k hk => absurd hk (by simp), Nat.le_refl _⟩
  have HTN := Aside0.mk TNIL
  clear hr1 hc1 hare ht TNIL
  cases t with
  | false =>
    rw [if_neg (by decide)] at h5
    obtain ⟨rfl, rfl⟩ := Prod.mk.inj (Option.some.inj h5)
    clear h5
    go_enter Tryz.func33, Tryz.ntmps33
    go_wp2_with (first | (go_at_call 57; refine (HARE.out _ (below_alloc (Below.refl _ _) _)).mono ?_; rintro e w1 ⟨rfl, hb⟩; have HB := Aside0.mk (below_then (below_alloc (Below.refl w.heap.size w) _) (by simp) hb); clear hb))
    go_ret2
    exact ⟨none, w.heap.size, _, _, rfl, .inl (by trivial), HTN.out _, HB.out⟩
  | true =>
    rw [if_pos rfl] at h5
    obtain ⟨u, hu, h6⟩ := Option.bind_eq_some_iff.mp h5
    clear h5
    have hhas : ∀ A W, Kd.C Kd.string W A 1 [a2] → Calls Tryz.prog 76 #[.agg #[.int .i64 a, .int .i64 b], .slice A 1 1] W _ := fun A W hW => impl_has.calls k a b A 1 [a2] u W hW (by simp) hu
    have HHAS := Aside0.mk hhas
    clear hhas hu
    cases u with
    | false =>
      rw [if_neg (by decide)] at h6
      obtain ⟨rfl, rfl⟩ := Prod.mk.inj (Option.some.inj h6)
      clear h6
      go_enter Tryz.func33, Tryz.ntmps33
      go_wp2_with (first | (go_at_call 57; refine (HARE.out _ (below_alloc (Below.refl _ _) _)).mono ?_; rintro e w1 ⟨rfl, hb⟩; have HB := Aside0.mk (below_then (below_alloc (Below.refl w.heap.size w) _) (by simp) hb); have BX := Aside0.mk (blk_below (blk_new w _) hb); have hc0 : w1.cell? ⟨w.heap.size, 0, none⟩ = some (.int .i64 a) := (blk_cell (BX.out) 0).trans rfl; have hc1 : w1.cell? ⟨w.heap.size, 1, none⟩ = some (.int .i64 b) := (blk_cell (BX.out) 1).trans rfl; clear hb) | (go_at_call 76; go_loud (refine (HHAS.out _ _ ?hcc).mono ?_; (case hcc => exact C_one _ _ _); rintro e w2 ⟨rfl, hb⟩; have n1 := Aside0.mk (below_then HB.out HB.out.size (below_then (below_alloc (Below.refl w1.heap.size w1) _) (by simp) hb)); clear hb HB; have HB := n1; clear n1)))
      go_ret2
      exact ⟨none, w.heap.size, _, _, rfl, .inl (by trivial), HTN.out _, HB.out⟩
    | true =>
      rw [if_pos rfl] at h6
      obtain ⟨cs, hcs, h7⟩ := Option.bind_eq_some_iff.mp h6
      obtain ⟨rows', hrows, h8⟩ := Option.bind_eq_some_iff.mp h7
      clear h6 h7
      obtain ⟨h81, h82⟩ := Prod.mk.inj (Option.some.inj h8)
      subst h81
      subst h82
      have hfit : ∀ W, Below w.heap.size w W → Calls Tryz.prog 58 #[.agg #[.int .i64 a, .int .i64 b], .slice A1 l1.length c1] W _ := fun W hW => impl_Lock_fitting.calls k a b A1 c1 l1 cs W (Kd.C_below HR.out hW) HC.out hcs
      have htab : ∀ A c W, Kd.C Kd.string W A cs.length cs → cs.length ≤ c → Calls Tryz.prog 79 #[.slice A cs.length c, .string a2] W _ := fun A c W hW hc => impl_table.calls k A c cs a2 rows' W hW hc hrows
      have HFIT := Aside0.mk hfit
      have HTAB := Aside0.mk htab
      clear h8 hfit htab hcs hrows
      go_enter Tryz.func33, Tryz.ntmps33
      go_wp2_with (first | (go_at_call 57; refine (HARE.out _ (below_alloc (Below.refl _ _) _)).mono ?_; rintro e w1 ⟨rfl, hb⟩; have HB := Aside0.mk (below_then (below_alloc (Below.refl w.heap.size w) _) (by simp) hb); have BX := Aside0.mk (blk_below (blk_new w _) hb); have hc0 : w1.cell? ⟨w.heap.size, 0, none⟩ = some (.int .i64 a) := (blk_cell (BX.out) 0).trans rfl; have hc1 : w1.cell? ⟨w.heap.size, 1, none⟩ = some (.int .i64 b) := (blk_cell (BX.out) 1).trans rfl; clear hb) | (go_at_call 76; go_loud (refine (HHAS.out _ _ ?hcc).mono ?_; (case hcc => exact C_one _ _ _); rintro e w2 ⟨rfl, hb⟩; clear hc0 hc1; have hbb := below_then (below_alloc (Below.refl w1.heap.size w1) _) (by simp) hb; have n1 := Aside0.mk (below_then HB.out HB.out.size hbb); have n2 := Aside0.mk (blk_below BX.out hbb); have hc0 : w2.cell? ⟨w.heap.size, 0, none⟩ = some (.int .i64 a) := (blk_cell (n2.out) 0).trans rfl; have hc1 : w2.cell? ⟨w.heap.size, 1, none⟩ = some (.int .i64 b) := (blk_cell (n2.out) 1).trans rfl; clear hb hbb HB BX; have HB := n1; have BX := n2; clear n1 n2)) | (go_at_call 58; refine (HFIT.out _ HB.out).mono ?_; rintro e w3 ⟨v3, rfl, hr, hb⟩; obtain ⟨A3, c3, e3⟩ := Kd.R_slice hr; subst e3; have HR3 := Aside0.mk hr; have n1 := Aside0.mk (below_then HB.out HB.out.size hb); clear hb HB hr hc0 hc1; have HB := n1; clear n1) | (go_at_call 79; refine (HTAB.out A3 c3 _ (Kd.R_reads' HR3.out).2.2 (Kd.R_reads' HR3.out).2.1).mono ?_; rintro e w4 ⟨A4, g4, bb4, cc4, rfl, h41, h42, h43⟩; have H41 := Aside0.mk h41; have H42 := Aside0.mk (h42.lower HB.out.size); have n1 := Aside0.mk (below_then HB.out HB.out.size h43); clear HB h41 h42 h43; have HB := n1; clear n1))
      go_ret2
      exact ⟨_, _, _, _, rfl, H41.out, H42.out, HB.out⟩
theorem impl_HintTable.f_le {k : Nat} {a b : Int} {l : List S35} {c : ByteArray} {rows : List (List Int)} {r2 : Bool} (h : impl_HintTable.f k a b l c = some (rows, r2)) : rows.length ≤ 1000000 := by
  unfold impl_HintTable.f at h
  obtain ⟨t, ht, h5⟩ := Option.bind_eq_some_iff.mp h
  cases t with
  | false =>
    rw [if_neg (by decide)] at h5
    obtain ⟨rfl, rfl⟩ := Prod.mk.inj (Option.some.inj h5)
    simp
  | true =>
    rw [if_pos rfl] at h5
    obtain ⟨u, hu, h6⟩ := Option.bind_eq_some_iff.mp h5
    cases u with
    | false =>
      rw [if_neg (by decide)] at h6
      obtain ⟨rfl, rfl⟩ := Prod.mk.inj (Option.some.inj h6)
      simp
    | true =>
      rw [if_pos rfl] at h6
      obtain ⟨cs, hcs, h7⟩ := Option.bind_eq_some_iff.mp h6
      obtain ⟨rows', hrows, h8⟩ := Option.bind_eq_some_iff.mp h7
      obtain ⟨h81, h82⟩ := Prod.mk.inj (Option.some.inj h8)
      subst h81
      have := impl_table.f_le hrows
      omega
/-- A table as rows that are read. -/
theorem TabAt.toV {A : Option Addr} {g : Nat} {bb cc : Nat → Nat} {rows : List (List Int)} {base : Nat} {W : World} (h : TabAt g bb cc rows base W) (hA : rows = [] ∨ A = some ⟨g, 0, none⟩) (hl : rows.length ≤ 1000000) (e base' : Nat) : Kd.V (Kd.slice 3 (Kd.int .i64)) e W base' (fun k_ => base ≤ k_) (.slice A rows.length rows.length) rows :=
  ⟨A, rows.length, rfl, Nat.le_refl _, fun W' hW' => (h.move (fun q hb_ hq => hW' q (by rcases hb_ with rfl | ⟨k, hk, rfl⟩; exact h.gown; exact (h.own k hk).1) hq)).reads hA hl⟩
theorem impl_HintTable.calls (k : Nat) (a b : Int) (A1 : Option Addr) (c1 : Nat) (l1 : List S35) (a2 : ByteArray) (rows : List (List Int)) (r2 : Bool) (w : World) (hr1 : Kd.C k35 w A1 l1.length l1) (hc1 : l1.length ≤ c1) (h : impl_HintTable.f k a b l1 a2 = some (rows, r2)) :
    Calls Tryz.prog 33 #[.agg #[.int .i64 a, .int .i64 b], .slice A1 l1.length c1, .string a2] w fun e w' => ∃ v0_ : Value, e = .returned (.tuple #[v0_, .bool r2]) ∧ Kd.V (Kd.slice 3 (Kd.int .i64)) 55 w' w.heap.size (fun k_ => w.heap.size ≤ k_) v0_ rows ∧ Below w.heap.size w w' :=
  (impl_HintTable.callsT k a b A1 c1 l1 a2 rows r2 w hr1 hc1 h).mono fun e w' ⟨A, g, bb, cc, he, hA, hT, hB⟩ => ⟨_, he, hT.toV hA (impl_HintTable.f_le h) _ _, hB⟩


/-! ### spec_hiParts: function 67 -/
def spec_hiParts.l0 : Nat → Int → ByteArray → List Int → List ByteArray → Int → Int → Option (List Int)
  | 0, _, _, _, _, _, _ => none
  | k + 1, x0, x1, x7, x18, x19, x20 => if x20 < x19 then (if 0 ≤ x20 then (if x20 < (x18.length : Int) then ((spec_hiOf.f x1 (rdOf ByteArray.empty x18 x20)).bind fun bt338 => (if 0 ≤ (wrap64 ((wrap64 (bt338.1 * (wrap64 (x0 + 1)))) + bt338.2)) then (if (wrap64 ((wrap64 (bt338.1 * (wrap64 (x0 + 1)))) + bt338.2)) < (x7.length : Int) then (spec_hiParts.l0 k x0 x1 (x7.set ((wrap64 ((wrap64 (bt338.1 * (wrap64 (x0 + 1)))) + bt338.2)) : Int).toNat (wrap64 ((rd x7 (wrap64 ((wrap64 (bt338.1 * (wrap64 (x0 + 1)))) + bt338.2))) + 1))) x18 x19 (wrap64 (x20 + 1))) else (none)) else (none))) else (none)) else (none)) else (some x7)
def spec_hiParts.f (k : Nat) (a0 : Int) (a1 : ByteArray) (l2 : List ByteArray) : Option (List Int) := if 0 ≤ (wrap64 ((wrap64 (a0 + 1)) * (wrap64 (a0 + 1)))) then (if (wrap64 ((wrap64 (a0 + 1)) * (wrap64 (a0 + 1))) : Int).toNat ≤ 35184372088832 then (spec_hiParts.l0 k a0 a1 (List.replicate (wrap64 ((wrap64 (a0 + 1)) * (wrap64 (a0 + 1))) : Int).toNat 0) l2 (l2.length : Int) 0) else (none)) else (none)
theorem spec_hiParts.mono_l : ∀ k, (∀ y0 y1 y2 y3 y4 y5, LeO (spec_hiParts.l0 k y0 y1 y2 y3 y4 y5) (spec_hiParts.l0 (k + 1) y0 y1 y2 y3 y4 y5))
  | 0 => fun _ _ _ _ _ _ r h => by simp [spec_hiParts.l0] at h
  | k + 1 => by
    have ih0 := spec_hiParts.mono_l k
    · intro y0 y1 y2 y3 y4 y5
      unfold spec_hiParts.l0
      repeat' first
      | (with_reducible first | exact ih0 _ _ _ _ _ _ | exact LeO.refl _ | exact LeO.none _ | refine LeO.ite ?_ ?_ | refine LeO.bind ?_ (fun _ => ?_))
      | exact ih0 _ _ _ _ _ _
      | exact LeO.none _
      | refine LeO.ite ?_ ?_
      | refine LeO.bind ?_ (fun _ => ?_)
theorem spec_hiParts.mono : ∀ a0 a1 a2 k, LeO (spec_hiParts.f k a0 a1 a2) (spec_hiParts.f (k + 1) a0 a1 a2) := by
  intro a0 a1 a2 k
  have ih0 := spec_hiParts.mono_l k
  unfold spec_hiParts.f
  repeat' first
      | (with_reducible first | exact ih0 _ _ _ _ _ _ | exact LeO.refl _ | exact LeO.none _ | refine LeO.ite ?_ ?_ | refine LeO.bind ?_ (fun _ => ?_))
      | exact ih0 _ _ _ _ _ _
      | exact LeO.none _
      | refine LeO.ite ?_ ?_
      | refine LeO.bind ?_ (fun _ => ?_)
theorem spec_hiParts.calls (k : Nat) (a0 : Int) (a1 : ByteArray) (A2 : Option Addr) (c2 : Nat) (l2 : List ByteArray) (r : List Int) (w : World) (hr2 : Kd.C Kd.string w A2 l2.length l2) (hc2 : l2.length ≤ c2) (h : spec_hiParts.f k a0 a1 l2 = some r) :
    Calls Tryz.prog 67 #[.int .i64 a0, .string a1, .slice A2 l2.length c2] w fun e w' => ∃ v0_ : Value, e = .returned (v0_) ∧ Kd.R (Kd.int .i64) 3 w' w.heap.size (fun _ => True) v0_ r ∧ Below w.heap.size w w' := by
  have HR2 := Aside0.mk hr2
  have HC2 := Aside0.mk hc2
  clear hr2 hc2
  have HB := Aside0.mk (Below.refl w.heap.size w)
  have H := h
  unfold spec_hiParts.f at H
  clear h
  obtain ⟨ji4, hji4⟩ : ∃ j_ : Int, (wrap64 ((wrap64 (a0 + 1)) * (wrap64 (a0 + 1)))) = j_ := ⟨_, rfl⟩
  replace H : (if 0 ≤ (ji4) then (if (ji4 : Int).toNat ≤ 35184372088832 then (spec_hiParts.l0 k a0 a1 (List.replicate (ji4 : Int).toNat 0) l2 (l2.length : Int) 0) else (none)) else (none)) = some r := by first | (rw [hji4] at H; exact H) | (simp only [hji4] at H ⊢; exact H)
  have hji4w : (IntKind.i64.wrap ((wrap64 (a0 + 1)) * (wrap64 (a0 + 1)))) = ji4 := (i64_w _).trans hji4
  replace H := nz H; obtain ⟨c5, H⟩ := H
  have c5b0 := eq_true c5
  have c5b1 : decide (0 ≤ (ji4)) = true := decide_eq_true c5
  clear c5
  replace H := nz H; obtain ⟨c6, H⟩ := H
  have c6b0 := eq_true c6
  have c6b1 : decide ((ji4 : Int).toNat ≤ 35184372088832) = true := decide_eq_true c6
  clear c6
  obtain ⟨y334, hy334⟩ : ∃ y_ : List Int, y_ = (List.replicate (ji4 : Int).toNat 0) := ⟨_, rfl⟩
  replace H : (spec_hiParts.l0 k a0 a1 y334 l2 (l2.length : Int) 0) = some r := hZ hy334 H
  have Ny334 := Aside0.mk hy334
  clear hy334
  have H' := Aside0.mk H
  clear H
  go_enter Tryz.func67, Tryz.ntmps67
  go_wp2_with (first | ((with_reducible refine gate_dst (N := 17) rfl ?_); refine Kd.R_make (Kd.int .i64) _ 3 rfl (N := 17) rfl 55 _ _ rfl ji4 rfl rfl Tryz.underlying55 (.int .i64 0) 8 info3 rfl (by decide) (by omega) 0 (ok := fun _ => True) (okp := fun _ => True) rfl (fun _ hk => hk) trivial (oD) (Nat.le_trans (Nat.mul_le_mul_right _ (oD : ji4.toNat ≤ 35184372088832)) (by omega)) (Below.refl _ _) (Nat.le_refl _) ?_; intro v335 w7 ho8 hb hg_ hnew_; clear hg_ hnew_; (first | rw [← Ny334.out] at ho8 | (simp only [Int.reduceToNat] at ho8; rw [← Ny334.out] at ho8)); have HO336 := Aside0.mk (Kd.R_lower ho8 (below_size bB)); replace HB := Aside0.mk (below_step bB hb); clear hb ho8))
  go_loopg [20] k (fun kq v20 w' => ∃ (x7_1 : List Int) (x20_1 : Int), v20 = .int .i64 x20_1 ∧ Aside0 (spec_hiParts.l0 kq a0 a1 x7_1 l2 (l2.length : Int) x20_1 = some r) ∧ Aside0 (kq ≤ k) ∧ Aside0 (Kd.R (Kd.int .i64) 3 w' w.heap.size (fun _ => True) v335 x7_1) ∧ Aside0 (Below w.heap.size w w'))
  case atStart => exact ⟨(y334), (0), fR, H', ⟨Nat.le_refl _⟩, ⟨kR HO336⟩, ⟨bB⟩⟩
  case round =>
    clear H'
    try clear c2
    try clear p2
    try clear c5
    try clear c5b0
    try clear c5b1
    try clear c6
    try clear c6b0
    try clear c6b1
    try clear p6
    obtain ⟨x7_1, x20_1, rfl, HA, HK1, HO_7, HB⟩ := hrel
    cases gk with
    | zero => exact absurd HA.out (by simp [spec_hiParts.l0])
    | succ k1 =>
      have H := HA.out
      clear HA
      simp only [spec_hiParts.l0] at H
      by_cases c9 : x20_1 < (l2.length : Int)
      · rw [if_pos c9] at H
        have c9b0 : decide (x20_1 < (l2.length : Int)) = true := decide_eq_true c9
        clear c9
        replace H := nz H; obtain ⟨c10, H⟩ := H
        have c10b0 : decide (0 ≤ x20_1) = true := decide_eq_true c10
        clear c10
        replace H := nz H; obtain ⟨c11, H⟩ := H
        have c11b0 : decide (x20_1 < (l2.length : Int)) = true := decide_eq_true c11
        clear c11
        replace H := Option.bind_eq_some_iff.mp H
        obtain ⟨⟨t338, t339⟩, A120, H⟩ := H
        (try dsimp only at H)
        have A12 := Aside0.mk A120
        clear A120
        obtain ⟨ji13, hji13⟩ : ∃ j_ : Int, (wrap64 ((wrap64 (t338 * (wrap64 (a0 + 1)))) + t339)) = j_ := ⟨_, rfl⟩
        replace H : (if 0 ≤ (ji13) then (if (ji13) < (x7_1.length : Int) then (spec_hiParts.l0 k1 a0 a1 (x7_1.set ((ji13) : Int).toNat (wrap64 ((rd x7_1 (ji13)) + 1))) l2 (l2.length : Int) (wrap64 (x20_1 + 1))) else (none)) else (none)) = some r := by first | (rw [hji13] at H; exact H) | (simp only [hji13] at H ⊢; exact H)
        (try rw [hji13] at A12)
        have hji13w : (IntKind.i64.wrap ((wrap64 (t338 * (wrap64 (a0 + 1)))) + t339)) = ji13 := (i64_w _).trans hji13
        replace H := nz H; obtain ⟨c14, H⟩ := H
        have c14b0 : decide (0 ≤ (ji13)) = true := decide_eq_true c14
        clear c14
        replace H := nz H; obtain ⟨c15, H⟩ := H
        have c15b0 : decide ((ji13) < (x7_1.length : Int)) = true := decide_eq_true c15
        clear c15
        obtain ⟨y341, hy341⟩ : ∃ y_ : List Int, y_ = (x7_1.set ((ji13) : Int).toNat (wrap64 ((rd x7_1 (ji13)) + 1))) := ⟨_, rfl⟩
        replace H : (spec_hiParts.l0 k1 a0 a1 y341 l2 (l2.length : Int) (wrap64 (x20_1 + 1))) = some r := hZ hy341 H
        have Ny341 := Aside0.mk hy341
        clear hy341
        have H' := Aside0.mk H
        clear H
        have p337 : 0 ≤ (x20_1 : Int) := oD
        have q337 : x20_1 < (l2.length : Int) := oD
        obtain ⟨ad337, e337, hx337_0⟩ := Kd.at_string HR2.out x20_1 p337 q337
        cases e337
        replace hx337_0 := (HB.out.cell (World.block_lt_of_cell? w _ hx337_0)).trans hx337_0
        replace p337 := eq_true p337
        replace q337 := eq_true q337
        go_wp2_with (first | ((with_reducible refine gate_callee (f := 75) rfl ?_); refine goesL_ (some 27) rfl rfl Tryz.func75 (by kernel_rfl) rfl #[.string a1, .string (rdOf ByteArray.empty l2 x20_1)] rfl lM ?_; (with_reducible refine (spec_hiOf.calls a1 (rdOf ByteArray.empty l2 x20_1) t338 t339 _ A12.out).mono ?_); rintro e w17 ⟨rfl, hb⟩; refine ⟨_, rfl, ?_⟩; replace HO_7 := Aside0.mk (Kd.R_below (kR HO_7) hb); replace HB := Aside0.mk (below_step bB hb); (try clear hb); obtain ⟨Ao18, co18, eo18⟩ := Kd.R_slice HO_7.out; subst eo18; have p340 : 0 ≤ ((ji13) : Int) := oD; have q340 : (ji13) < (x7_1.length : Int) := oD; obtain ⟨ad340, e340, hx340_0⟩ := Kd.at_int (Kd.R_reads' HO_7.out).2.2 (ji13) p340 q340; cases e340; replace p340 := eq_true p340; replace q340 := eq_true q340; have p16 : 0 ≤ ((ji13) : Int) := oD; have q16 : ((ji13) : Int) < ((x7_1.length : Int) : Int) := oD; obtain ⟨go16, co16, eo16, gb16, gl16, cl16, HG16⟩ := Kd.R_form HO_7.out (by omega); (first | cases eo16 | (injection eo16 with ea_ en_ ec_; (first | subst ea_ | (injection ea_ with ea_; subst ea_)); subst ec_; clear en_)); have GB16 := Aside0.mk gb16; have GG16 := Aside0.mk HG16; clear gb16 gl16 HG16; (first | simp only [add_plain] at hx340_0 | skip); obtain ⟨hx16_0, hf16_0⟩ := Kd.R_celln 0 HO_7.out ((ji13) : Int) p16 q16; replace p16 := eq_true p16; replace q16 := eq_true q16; obtain ⟨hy19_, hz19_⟩ := Kd.R_celln 0 HO_7.out ((ji13) : Int) (oD) (oD); have HP19 := Kd.R_putg HO_7.out ((ji13) : Int) (wrap64 ((rd x7_1 (ji13)) + 1))) | ((with_reducible refine gate_store (t := 3) (p := 40) rfl ?_); refine store_event (t := 3) (p := 40) (v := ?vo_w20) (w1 := (w17.setCell ⟨go16, ((ji13) : Int).toNat, none⟩ (.int .i64 (wrap64 ((rd x7_1 (ji13)) + 1))))) ?hg ?ho ?hn ?hr ?_; (case ho => rfl); (case hg => rfl); (case hn => rfl); (case hr => first | (go_simp; done) | (go_simp; rfl)); intro w20 hw; have hg : w17.grownBy w20 (some go16) := (by rw [hw]; exact HP19.2); have hp_ : Kd.R (Kd.int .i64) 3 w20 w.heap.size (fun _ => True) (.slice (some ⟨go16, 0, none⟩) x7_1.length co18) y341 := (by rw [hw, Ny341.out]; exact HP19.1); clear HP19; replace HO_7 := Aside0.mk (hp_); replace HB := Aside0.mk ((by rw [hw]; exact below_set (HB.out) GB16.out : Below w.heap.size w w20)); clear hg hw hp_))
        go_roundg k1
        case measure => have := HK1.out; omega
        case rel => exact ⟨(y341), (wrap64 (x20_1 + 1)), fR, H', ⟨by have := HK1.out; omega⟩, ⟨kR HO_7⟩, ⟨bB⟩⟩
      · rw [if_neg c9] at H
        have c9b0 : decide (x20_1 < (l2.length : Int)) = false := decide_eq_false c9
        clear c9
        obtain rfl := Option.some.inj H
        go_wp2
        go_ret
        exact ⟨_, by first | rfl | (simp [errW_none, errW_some] <;> rfl) | (simp only [← hji4]; first | rfl | (simp [errW_none, errW_some] <;> rfl)) | (simp [*, errW_none, errW_some] <;> rfl), kR HO_7, bB⟩

end Go.Proofs.YtcpnmiempaofdaaGreat.G
