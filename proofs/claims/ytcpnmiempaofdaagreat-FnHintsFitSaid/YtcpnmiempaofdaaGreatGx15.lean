-- Printed by hp.py, a program of this session: a machine's side of laws, out of the translation; Lean checks it.
import Derived.Test.YtcpnmiempaofdaaGreatGx0
import Derived.Test.YtcpnmiempaofdaaGreatGx2
import Derived.Test.YtcpnmiempaofdaaGreatGx3
import Derived.Test.YtcpnmiempaofdaaGreatGx6
import Derived.Test.YtcpnmiempaofdaaGreatGx7
import Derived.Test.YtcpnmiempaofdaaGreatGx14
namespace Go.Proofs.YtcpnmiempaofdaaGreat.G
open Go.RowKit Go.Proofs.YtcpnmiempaofdaaGreatW.PrintWords Go.Proofs.YtcpnmiempaofdaaGreatW.PrintLast Go.Proofs.YtcpnmiempaofdaaGreatW.PrintMore
attribute [local go_sem] max2_int min2_int max_two min_two max_three min_three max_four min_four   -- for this text's walks alone
set_option maxHeartbeats 8000000
set_option maxRecDepth 100000
set_option linter.unusedVariables false
set_option linter.unusedSimpArgs false

/-! ### impl_Hint_86: function 86 -/
theorem R_beyond {α : Type} {d : Kd α} {e base g m c : Nat} {ok : Nat → Prop} {W : World} {xs : List α} (h : d.R e W base ok (.slice (some ⟨g, 0, none⟩) m c) xs) (o : Nat) (ho : m * d.sz ≤ o) (v : Value) :
  d.R e (W.setCell ⟨g, o, none⟩ v) base ok (.slice (some ⟨g, 0, none⟩) m c) xs := by
 have hm := (Kd.R_reads' h).1
 obtain ⟨h0, inner, hown, hr⟩ := h
 obtain ⟨hl, hcase⟩ := hown
 rcases hcase with ⟨hv, _⟩ | ⟨g', cap, cur, hv, hb, hg, h1, h2, h3, h4⟩
 ·exact absurd hv (by simp)
 ·obtain ⟨rfl, _, rfl⟩ : g = g' ∧ m = xs.length ∧ c = cap := by simpa using hv
  refine ⟨h0, inner, ⟨hl, .inr ⟨g, c, cur.setIfInBounds o v, by rw [hm], hb, blk_set hg o v, h1, h2, by simpa using h3, ?_⟩⟩, hr.imp_ (fun p q hp => d.M_move (fun k' hk' => Below.heap_setCell W ⟨g, o, none⟩ v k' (fun he => hk'.2 (by rw [he]; rfl))) hp)⟩
  rw [Array.toList_setIfInBounds, List.take_set_of_le (by rw [← hm]; exact ho)]
  exact h4
theorem R_room {α : Type} {d : Kd α} {e base g m c : Nat} {ok : Nat → Prop} {W : World} {xs : List α} (h : d.R e W base ok (.slice (some ⟨g, 0, none⟩) m c) xs) (o : Nat) (ho : o < c * d.sz) :
  (W.cell? ⟨g, o, none⟩).isSome = true ∧ W.frozen? ⟨g, o, none⟩ = false := by
 obtain ⟨h0, inner, hown, hr⟩ := h
 obtain ⟨hl, hcase⟩ := hown
 rcases hcase with ⟨hv, _⟩ | ⟨g', cap, cur, hv, hb, hg, h1, h2, h3, h4⟩
 ·exact absurd hv (by simp)
 ·obtain ⟨rfl, _, rfl⟩ : g = g' ∧ m = xs.length ∧ c = cap := by simpa using hv
  refine ⟨?_, blk_frozen hg o⟩
  rw [blk_cell hg o, Array.getElem?_eq_getElem (by omega)]
  rfl
theorem clearH_run (w : World) (b o c : Nat) (ty : TypeId) (hc : ∀ j, j < 3 → (w.cell? ⟨b, o + j, none⟩).isSome = true) (hf : ∀ j, j < 3 → w.frozen? ⟨b, o + j, none⟩ = false) :
  (Builtin.clear_ #[28] ty #[.slice (some ⟨b, o, none⟩) 1 c]).run Tryz.prog w = .ok (.tuple #[]) (w.setCells b o [.string ⟨#[]⟩, .int .i64 0, .int .i64 0]) := by
 have hv : ∀ w, (zeroValue 35).run Tryz.prog w = .ok (.agg #[.string ⟨#[]⟩, .int .i64 0, .int .i64 0]) w := fun w => by kernel_rfl
 have hzc : (Builtin.zeroCells (Value.agg #[.string ⟨#[]⟩, .int .i64 0, .int .i64 0]).cells 1).toList = [.string ⟨#[]⟩, .int .i64 0, .int .i64 0] := by kernel_rfl
 have hst := run_storeCells_cells (P := Tryz.prog) b o [.string ⟨#[]⟩, .int .i64 0, .int .i64 0] 0 w (by simpa using hc) (by simpa using hf) (by intro v hv'; simp at hv'; rcases hv' with rfl | rfl | rfl <;> rfl)
 simp only [Nat.add_zero] at hst
 simp [Builtin.clear_, run_underlying Tryz.underlying28, hv, hzc, hst]
set_option maxHeartbeats 4000000 in
set_option maxRecDepth 100000 in
theorem delH_calls (g n c i : Nat) (x y : Int) (hx : x = (i : Int)) (hy : y = ((i + 1 : Nat) : Int)) (ok : Nat → Prop) (l : List S35) (w0 w : World)
  (hr : Kd.R k35 35 w w0.heap.size ok (.slice (some ⟨g, 0, none⟩) n c) l) (hi : i < n) (hn : n ≤ 1000) (hB : Below w0.heap.size w0 w) (hg : w0.heap.size ≤ g) :
  Calls Tryz.prog 86 #[.slice (some ⟨g, 0, none⟩) n c, .int .i64 x, .int .i64 y] w fun e w' => e = .returned (.slice (some ⟨g, 0, none⟩) (n - 1) c) ∧ Kd.R k35 35 w' w0.heap.size ok (.slice (some ⟨g, 0, none⟩) (n - 1) c) (l.eraseIdx i) ∧ Below w0.heap.size w0 w' := by
 have hbase := hB.size
 obtain ⟨q, rfl⟩ : ∃ q, n = q + 1 := ⟨n - 1, by omega⟩
 have hu33 := Tryz.underlying28
 have hin75 : (Tryz.prog.info? 35).map (fun i => (i.zero, i.size, i.bytes)) = some (some (.agg #[(.string ⟨#[]⟩), (.int .i64 0), (.int .i64 0)]), 3, 32) := by kernel_rfl
 obtain ⟨i0, hi0, _, hsz, _⟩ := info_parts hin75
 obtain ⟨hnl, hnc, _⟩ := Kd.R_reads' hr
 have hrd := Kd.R_drew hr
 obtain ⟨A, hA⟩ : ∃ A, A = (if c = i + 1 then some (⟨g, 0, none⟩ : Addr) else (some (⟨g, 0, none⟩ : Addr)).map (·.add ((i + 1) * 3))) := ⟨_, rfl⟩
 have HIN := Aside0.mk hin75
 have hinfo : (Tryz.prog.info? 35).map (·.size) = some (k35).sz := by rw [hi0]; exact congrArg some hsz
 have hA' : A = (if c = i + 1 then some (⟨g, 0, none⟩ : Addr) else some ⟨g, (i + 1) * 3, none⟩) := by
  rw [hA]
  split
  ·rfl
  ·simp [Addr.add]
 have HINFO := Aside0.mk hinfo
 have HRD := Aside0.mk hrd
 have HBD := Aside0.mk (below_drew hB)
 have hxy : (x == y) = false := beq_eq_false_iff_ne.mpr (by omega)
 have p0 : 0 ≤ x := by omega
 have p1 : x ≤ y := by omega
 have p2 : y ≤ ((q + 1 : Nat) : Int) := by omega
 have p3 : (q : Int) + 1 ≤ (c : Int) := by omega
 have hic : i ≤ c := by omega
 have q0 : (0 : Int) ≤ (i : Int) + 1 := by omega
 have q1 : (i : Int) + 1 ≤ (q : Int) + 1 := by omega
 have q2 : (q : Int) ≤ (c : Int) := by omega
 have q3 : (c = q) = False := eq_false (by omega)
 have q4 : (q : Int) ≤ (q : Int) + 1 := by omega
 have HG := Aside0.mk hg
 have HNC := Aside0.mk hnc
 clear hr hrd hB hnl hin75 hinfo hg
 have HA := Aside0.mk hA
 have HA' := Aside0.mk hA'
 clear hA hA'
 go_enter Tryz.func86, Tryz.ntmps86
 go_wp2
 go_region_law (refine Kd.R_delete_step k35 (w0 := w0) w0.heap.size rfl (.tmp 22) (.tmp 25) 28 35 rfl hu33 HINFO.out (g := g) (n := q + 1) (c := c) (k := i) (m := q + 1 - (i + 1)) (c2 := c - (i + 1)) (A := if c = i + 1 then some (⟨g, 0, none⟩ : Addr) else some ⟨g, (i + 1) * 3, none⟩) (by first | rfl | simp [Act.eval, Act.put]) (by first | rfl | simp [Act.eval, Act.put]) (by rw [← HA'.out, HA.out]; rfl) rfl HRD.out hi HBD.out (by simpa using hbase) ?_; intro w2 hr2 hb2 hg2; have HR2 := Aside0.mk hr2; have HB2 := Aside0.mk hb2; clear hr2 hb2 hg2)
 have hroom : ∀ j, j < 3 → (w2.cell? ⟨g, q * 3 + j, none⟩).isSome = true ∧ w2.frozen? ⟨g, q * 3 + j, none⟩ = false := fun j hj => R_room HR2.out (q * 3 + j) (by have := HNC.out; show q * 3 + j < c * 3; omega)
 have hcl := fun ty => clearH_run w2 g (q * 3) (c - q) ty (fun j hj => (hroom j hj).1) (fun j hj => (hroom j hj).2)
 have hR3 := R_beyond (R_beyond (R_beyond HR2.out (q * 3) (by show (q + 1 - 1) * 3 ≤ _; omega) (.string ⟨#[]⟩)) (q * 3 + 1) (by show (q + 1 - 1) * 3 ≤ _; omega) (.int .i64 0)) (q * 3 + 1 + 1) (by show (q + 1 - 1) * 3 ≤ _; omega) (.int .i64 0)
 have hB3 := below_set (j := q * 3 + 1 + 1) (v := .int .i64 0) (below_set (j := q * 3 + 1) (v := .int .i64 0) (below_set (j := q * 3) (v := .string ⟨#[]⟩) HB2.out HG.out) HG.out) HG.out
 have HR3 := Aside0.mk hR3
 have HB3 := Aside0.mk hB3
 clear hroom hR3 hB3
 go_wp2
 all_goals (go_ret; first | exact ⟨rfl, HR3.out, HB3.out⟩ | (have hce : c = i + 1 := (by assumption); exact ⟨rfl, by rw [← hce]; exact HR3.out, HB3.out⟩))


/-! ### impl_NeedlessHints: function 42 -/
def ndlF (k : Nat) (a b : Int) (l : List S35) (n : Nat) (acc : List Int) (i : Nat) : Option (List Int) :=
 (impl_Lock_fitting.f k a b (l.eraseIdx i)).bind fun u => some (if u.length = n then acc ++ [(i : Int)] else acc)
def impl_NeedlessHints.f (k : Nat) (a b : Int) (l : List S35) : Option (List Int × Bool) :=
 (impl_areHints.f k a b l).bind fun t => if t = true then
  (if l.length ≤ 1000 then (impl_Lock_fitting.f k a b l).bind fun u => (foldO (ndlF k a b l u.length) [] (List.range l.length)).map fun x => (x, true) else none)
 else some ([], false)
theorem impl_NeedlessHints.mono : ∀ a b l k, LeO (impl_NeedlessHints.f k a b l) (impl_NeedlessHints.f (k + 1) a b l) := fun a b l k =>
 LeO.bind (impl_areHints.mono _ _ _ _) (fun t => LeO.ite (LeO.ite (LeO.bind (impl_Lock_fitting.mono _ _ _ _) (fun u => LeO.map _ (foldO_mono (fun s x => LeO.bind (impl_Lock_fitting.mono _ _ _ _) (fun _ => LeO.refl _)) _ _))) (LeO.refl _)) (LeO.refl _))
theorem impl_NeedlessHints.calls (k : Nat) (a b : Int) (A1 : Option Addr) (c1 : Nat) (l1 : List S35) (r : List Int) (r2 : Bool) (w : World) (hr1 : Kd.C k35 w A1 l1.length l1) (hc1 : l1.length ≤ c1) (h : impl_NeedlessHints.f k a b l1 = some (r, r2)) :
  Calls Tryz.prog 42 #[.agg #[.int .i64 a, .int .i64 b], .slice A1 l1.length c1] w fun e w' => ∃ v0_ : Value, e = .returned (.tuple #[v0_, .bool r2]) ∧ Kd.R (Kd.int .i64) 3 w' w.heap.size (fun _ => True) v0_ r ∧ Below w.heap.size w w' := by
 have hu26 := Tryz.underlying25
 have hu56 := Tryz.underlying55
 unfold impl_NeedlessHints.f at h
 obtain ⟨t, ht, h⟩ := Option.bind_eq_some_iff.mp h
 have hare : ∀ W, Kd.C k35 W A1 l1.length l1 → Calls Tryz.prog 57 #[.agg #[.int .i64 a, .int .i64 b], .slice A1 l1.length c1] W fun e w' => e = .returned (.bool t) ∧ Below W.heap.size W w' := fun W hc => impl_areHints.calls k a b A1 c1 l1 t W hc hc1 ht
 have HC := Aside0.mk (Kd.C_alloc hr1 (.cells #[.int .i64 a, .int .i64 b] 25))
 obtain ⟨W1, hW1⟩ : ∃ W1, W1 = w.alloc (.cells #[.int .i64 a, .int .i64 b] 25) := ⟨_, rfl⟩
 have HBX : Aside0 (W1.heap[w.heap.size]? = some (.cells #[.int .i64 a, .int .i64 b] 25 (0, 0))) := ⟨by rw [hW1]; exact blk_new w _⟩
 have HB0 : Aside0 (Below w.heap.size w W1) := ⟨by rw [hW1]; exact below_alloc (Below.refl _ _) _⟩
 rw [← hW1] at HC
 have HW1 := Aside0.mk hW1
 have HC1 := Aside0.mk hc1
 clear ht hr1 hW1 hc1
 cases t with
 | false =>
  rw [if_neg (by decide)] at h
  obtain ⟨rfl, rfl⟩ : [] = r ∧ false = r2 := by simpa using h
  clear h
  go_enter Tryz.func42, Tryz.ntmps42
  go_wp2_with (go_at_call 57; rw [← HW1.out]; refine (hare _ HC.out).mono ?_; rintro e w1 ⟨rfl, hb⟩; have HB := Aside0.mk hb; clear hb)
  go_ret2
  exact ⟨_, rfl, Kd.R_nil _ _ _ _ _, below_then HB0.out HB0.out.size HB.out⟩
 | true =>
 rw [if_pos rfl] at h
 by_cases hlen : l1.length ≤ 1000
 case neg => rw [if_neg hlen] at h; exact absurd h (by simp)
 rw [if_pos hlen] at h
 obtain ⟨u, hu, h⟩ := Option.bind_eq_some_iff.mp h
 obtain ⟨x9, hx, h⟩ := Option.map_eq_some_iff.mp h
 obtain ⟨h1, h2⟩ : x9 = r ∧ true = r2 := by simpa using h
 subst h1 h2
 have hfit : ∀ W, Kd.C k35 W A1 l1.length l1 → Calls Tryz.prog 58 #[.agg #[.int .i64 a, .int .i64 b], .slice A1 l1.length c1] W fun e w' => ∃ v0_ : Value, e = .returned v0_ ∧ Kd.R Kd.string 9 w' W.heap.size (fun _ => True) v0_ u ∧ Below W.heap.size W w' := fun W hc => impl_Lock_fitting.calls k a b A1 c1 l1 u W hc HC1.out hu
 have HX := Aside0.mk hx
 have HL := Aside0.mk hlen
 have M1 := Aside0.mk trivial
 clear h hu hx hlen
 go_enter Tryz.func42, Tryz.ntmps42
 go_wp2_with (first
  | (go_at_call 57; rw [← HW1.out]; refine (hare _ HC.out).mono ?_; rintro e w1 ⟨rfl, hb⟩; have HB := Aside0.mk (below_then HB0.out HB0.out.size hb); have HB1 := Aside0.mk hb; have hc0 : w1.cell? ⟨w.heap.size, 0, none⟩ = some (.int .i64 a) := (blk_cell (blk_below HBX.out hb) 0).trans rfl; have hc1 : w1.cell? ⟨w.heap.size, 1, none⟩ = some (.int .i64 b) := (blk_cell (blk_below HBX.out hb) 1).trans rfl; clear hb)
  | (go_at_call 58; refine (hfit _ (Kd.C_below HC.out HB1.out)).mono ?_; rintro e w2 ⟨vu, rfl, hr, hb⟩; obtain ⟨Au, cu, eu⟩ := Kd.R_slice hr; subst eu; have n0 := Aside0.mk (below_then HB.out HB.out.size hb); have n1 := Aside0.mk (below_then HB1.out HB1.out.size hb); clear HB HB1 hb hr hc0 hc1; have HB := n0; have HB1 := n1; clear n0 n1))
 clear hare hfit M1
 have HO0 : Aside0 (Kd.R (Kd.int .i64) 3 (w2.alloc (.cells #[] 3)) W1.heap.size (fun _ => True) (.slice (some ⟨w2.heap.size, 0, none⟩) 0 0) []) := ⟨hw_R_lit0 w2 3 W1.heap.size (fun _ => True) HB1.out.size trivial⟩
 have n1 := Aside0.mk (below_alloc HB1.out (.cells #[] 3))
 clear HB1 HB
 have HB1 := n1
 clear n1
 obtain ⟨W3, hW3⟩ : ∃ W3, W3 = w2.alloc (.cells #[] 3) := ⟨_, rfl⟩
 rw [← hW3] at HO0 HB1 ⊢
 clear hW3
 have HIN3 := Aside0.mk info3
 go_loopg [7, 20] l1.length (fun gg v7 v20 wr => ∃ (i : Nat) (acc : List Int), v20 = .int .i64 (i : Int) ∧ i ≤ l1.length ∧ l1.length - i ≤ gg ∧ Aside0 (foldO (ndlF k a b l1 u.length) acc ((List.range l1.length).drop i) = some x9) ∧ Aside0 (acc.length ≤ i) ∧ Aside0 (Kd.R (Kd.int .i64) 3 wr W1.heap.size (fun _ => True) v7 acc) ∧ Aside0 (Below W1.heap.size W1 wr))
 case atStart => exact ⟨0, [], rfl, by omega, by omega, by simpa using HX, ⟨Nat.le_refl _⟩, HO0, HB1⟩
 case round =>
  clear HX HO0 HB1
  obtain ⟨i, acc, rfl, hi, hg, HP, HAL, HO, HB1⟩ := hrel
  obtain ⟨x, hx⟩ : ∃ x : Int, x = (i : Int) := ⟨_, rfl⟩
  have HXI := Aside0.mk hx
  rw [← hx]
  by_cases hlt : i < l1.length
  ·have hxlt : decide (x < (l1.length : Int)) = true := decide_eq_true (by omega)
   have H := HP.out
   rw [List.drop_eq_getElem_cons (by simpa using hlt), List.getElem_range, foldO] at H
   obtain ⟨acc2, hst, H⟩ := Option.bind_eq_some_iff.mp H
   unfold ndlF at hst
   obtain ⟨u2, hu2, hst⟩ := Option.bind_eq_some_iff.mp hst
   have hlE : (l1.eraseIdx i).length = l1.length - 1 := List.length_eraseIdx_of_lt hlt
   have hfit2 : ∀ (A : Option Addr) (c : Nat) (W : World), Kd.C k35 W A (l1.length - 1) (l1.eraseIdx i) → l1.length - 1 ≤ c → Calls Tryz.prog 58 #[.agg #[.int .i64 a, .int .i64 b], .slice A (l1.length - 1) c] W fun e w' => ∃ v0_ : Value, e = .returned v0_ ∧ Kd.R Kd.string 9 w' W.heap.size (fun _ => True) v0_ u2 ∧ Below W.heap.size W w' := by
    intro A c W hc hcp
    rw [← hlE] at hc hcp ⊢
    exact impl_Lock_fitting.calls k a b A c _ u2 W hc hcp hu2
   have HST := Aside0.mk (Option.some.inj hst)
   have HP2 := Aside0.mk H
   have HIL := Aside0.mk hlt
   have HG := Aside0.mk hg
   have HI := Aside0.mk hi
   have hpos : 0 < l1.length := by omega
   have HPOS := Aside0.mk hpos
   have hw1 : IntKind.i64.wrap (x + 1) = x + 1 := by have := HL.out; simp [IntKind.wrap, IntKind.bits, IntKind.signed]; omega
   have hw2 : wrap64 (x + 1) = x + 1 := by have := HL.out; unfold wrap64; omega
   obtain ⟨A7, c7, e7⟩ := Kd.R_slice HO.out
   subst e7
   have hc0 : wr.cell? ⟨w.heap.size, 0, none⟩ = some (.int .i64 a) := (blk_cell (blk_below HBX.out HB1.out) 0).trans rfl
   have hc1 : wr.cell? ⟨w.heap.size, 1, none⟩ = some (.int .i64 b) := (blk_cell (blk_below HBX.out HB1.out) 1).trans rfl
   clear H HP hst hu2 hlE hlt hg hi hx hpos
   by_cases hq : u2.length = u.length
   ·have hq1 : ((u2.length : Int) == (u.length : Int)) = true := by simp [hq]
    have hq2 : (u2.length == u.length) = true := by simp [hq]
    have HE : Aside0 (acc ++ [x] = acc2) := ⟨by have := HST.out; rw [if_pos hq, ← HXI.out] at this; exact this⟩
    clear hq HST
    go_wp2
    go_region_held3 (fun w' => w'.cell? ⟨w.heap.size, 0, none⟩ = some (.int .i64 a) ∧ w'.cell? ⟨w.heap.size, 1, none⟩ = some (.int .i64 b)) (first | go_keep | exact ⟨hd0, hd1⟩ | exact ⟨he0, he1⟩ | exact ⟨hf0, hf1⟩) (first | (go_at_call 87; refine (cloneH_calls A1 c1 l1 _ ?hc HL.out).mono ?_; (case hc => exact Kd.C_below HC.out (below_drew HB1.out)); rintro e w3 ⟨v0, rfl, hr, hb⟩; have hb3 : Below wr.heap.size wr w3 := below_then (below_drew (Below.refl _ _)) (Nat.le_refl _) hb; obtain ⟨g, cp, ev, hge, _, _⟩ := Kd.R_form hr HPOS.out; subst ev; have HR3 := Aside0.mk hr; have HB3 := Aside0.mk hb3; have HGE := Aside0.mk (show wr.heap.size ≤ g from hge); have hd0 : w3.cell? ⟨w.heap.size, 0, none⟩ = some (.int .i64 a) := (blk_cell (blk_below HBX.out (below_then HB1.out HB1.out.size hb3)) 0).trans rfl; have hd1 : w3.cell? ⟨w.heap.size, 1, none⟩ = some (.int .i64 b) := (blk_cell (blk_below HBX.out (below_then HB1.out HB1.out.size hb3)) 1).trans rfl; clear hr hb hb3 hge) | (go_at_call 86; refine (delH_calls g l1.length cp i x (x + 1) HXI.out (by have := HXI.out; omega) (fun _ => True) l1 wr w3 HR3.out HIL.out HL.out HB3.out HGE.out).mono ?_; rintro e w4 ⟨rfl, hr, hb⟩; have HR4 := Aside0.mk hr; have HB4 := Aside0.mk hb; have he0 : w4.cell? ⟨w.heap.size, 0, none⟩ = some (.int .i64 a) := (blk_cell (blk_below HBX.out (below_then HB1.out HB1.out.size hb)) 0).trans rfl; have he1 : w4.cell? ⟨w.heap.size, 1, none⟩ = some (.int .i64 b) := (blk_cell (blk_below HBX.out (below_then HB1.out HB1.out.size hb)) 1).trans rfl; clear hr hb HR3 HB3) | (go_at_call 58; refine (hfit2 _ _ _ ?hc ?hcp).mono ?_; (case hc => rw [(Kd.R_reads' HR4.out).1]; exact (Kd.R_reads' HR4.out).2.2); (case hcp => exact (Kd.R_reads' HR4.out).2.1); rintro e w5 ⟨vu, rfl, hr, hb⟩; obtain ⟨A5, c5, e5⟩ := Kd.R_slice hr; subst e5; have HB5 := Aside0.mk (below_then HB4.out HB4.out.size hb); have hf0 : w5.cell? ⟨w.heap.size, 0, none⟩ = some (.int .i64 a) := (blk_cell (blk_below HBX.out (below_then HB1.out HB1.out.size (below_then HB4.out HB4.out.size hb))) 0).trans rfl; have hf1 : w5.cell? ⟨w.heap.size, 1, none⟩ = some (.int .i64 b) := (blk_cell (blk_below HBX.out (below_then HB1.out HB1.out.size (below_then HB4.out HB4.out.size hb))) 1).trans rfl; clear hr hb HR4 HB4))
    go_wp2_with ((with_reducible refine gate_builtin (b := .append) (xs := #[.tmp 34, .tmp 36]) rfl ?_); at_builtin; refine Kd.R_append (Kd.int .i64) (w0 := W1) W1.heap.size rfl (.tmp 34) (.tmp 36) 55 3 (.int .i64 0) 8 rfl Tryz.underlying55 HIN3.out rfl (by decide) (by omega) (.slice A7 acc.length c7) acc x [.int .i64 x] (fun _ => True) (fun _ => False) rfl rfl ?aP (fun _ hk => hk.elim) ?aF ?aO ?aB ?aS ?aL ?_; (case aP => exact rfl); (case aB => exact below_then HB1.out HB1.out.size HB5.out); (case aF => exact (fun _ _ => trivial)); (case aO => exact Kd.R_below HO.out HB5.out); (case aS => exact Nat.le_trans HB1.out.size HB5.out.size); (case aL => have := HAL.out; have := HI.out; have := HL.out; omega); intro v9 w9 ho hb hg hat; rw [HE.out] at ho; have HO9 := Aside0.mk ho; have HB9 := Aside0.mk hb; clear ho hb hg hat)
    go_roundg (l1.length - (i + 1))
    case measure => have := HG.out; have := HIL.out; omega
    case rel => exact ⟨i + 1, acc2, by rw [HXI.out]; rfl, by have := HIL.out; omega, Nat.le_refl _, HP2, ⟨by rw [← HE.out]; have := HAL.out; simp; omega⟩, HO9, HB9⟩
   ·have hq1 : ((u2.length : Int) == (u.length : Int)) = false := by simp; omega
    have hq2 : (u2.length == u.length) = false := by simp [hq]
    have HE : Aside0 (acc = acc2) := ⟨by have := HST.out; rw [if_neg hq] at this; exact this⟩
    clear hq HST
    go_wp2
    go_region_held3 (fun w' => w'.cell? ⟨w.heap.size, 0, none⟩ = some (.int .i64 a) ∧ w'.cell? ⟨w.heap.size, 1, none⟩ = some (.int .i64 b)) (first | go_keep | exact ⟨hd0, hd1⟩ | exact ⟨he0, he1⟩ | exact ⟨hf0, hf1⟩) (first | (go_at_call 87; refine (cloneH_calls A1 c1 l1 _ ?hc HL.out).mono ?_; (case hc => exact Kd.C_below HC.out (below_drew HB1.out)); rintro e w3 ⟨v0, rfl, hr, hb⟩; have hb3 : Below wr.heap.size wr w3 := below_then (below_drew (Below.refl _ _)) (Nat.le_refl _) hb; obtain ⟨g, cp, ev, hge, _, _⟩ := Kd.R_form hr HPOS.out; subst ev; have HR3 := Aside0.mk hr; have HB3 := Aside0.mk hb3; have HGE := Aside0.mk (show wr.heap.size ≤ g from hge); have hd0 : w3.cell? ⟨w.heap.size, 0, none⟩ = some (.int .i64 a) := (blk_cell (blk_below HBX.out (below_then HB1.out HB1.out.size hb3)) 0).trans rfl; have hd1 : w3.cell? ⟨w.heap.size, 1, none⟩ = some (.int .i64 b) := (blk_cell (blk_below HBX.out (below_then HB1.out HB1.out.size hb3)) 1).trans rfl; clear hr hb hb3 hge) | (go_at_call 86; refine (delH_calls g l1.length cp i x (x + 1) HXI.out (by have := HXI.out; omega) (fun _ => True) l1 wr w3 HR3.out HIL.out HL.out HB3.out HGE.out).mono ?_; rintro e w4 ⟨rfl, hr, hb⟩; have HR4 := Aside0.mk hr; have HB4 := Aside0.mk hb; have he0 : w4.cell? ⟨w.heap.size, 0, none⟩ = some (.int .i64 a) := (blk_cell (blk_below HBX.out (below_then HB1.out HB1.out.size hb)) 0).trans rfl; have he1 : w4.cell? ⟨w.heap.size, 1, none⟩ = some (.int .i64 b) := (blk_cell (blk_below HBX.out (below_then HB1.out HB1.out.size hb)) 1).trans rfl; clear hr hb HR3 HB3) | (go_at_call 58; refine (hfit2 _ _ _ ?hc ?hcp).mono ?_; (case hc => rw [(Kd.R_reads' HR4.out).1]; exact (Kd.R_reads' HR4.out).2.2); (case hcp => exact (Kd.R_reads' HR4.out).2.1); rintro e w5 ⟨vu, rfl, hr, hb⟩; obtain ⟨A5, c5, e5⟩ := Kd.R_slice hr; subst e5; have HB5 := Aside0.mk (below_then HB4.out HB4.out.size hb); have hf0 : w5.cell? ⟨w.heap.size, 0, none⟩ = some (.int .i64 a) := (blk_cell (blk_below HBX.out (below_then HB1.out HB1.out.size (below_then HB4.out HB4.out.size hb))) 0).trans rfl; have hf1 : w5.cell? ⟨w.heap.size, 1, none⟩ = some (.int .i64 b) := (blk_cell (blk_below HBX.out (below_then HB1.out HB1.out.size (below_then HB4.out HB4.out.size hb))) 1).trans rfl; clear hr hb HR4 HB4))
    go_wp2
    go_roundg (l1.length - (i + 1))
    case measure => have := HG.out; have := HIL.out; omega
    case rel => exact ⟨i + 1, acc2, by rw [HXI.out]; rfl, by have := HIL.out; omega, Nat.le_refl _, HP2, ⟨by rw [← HE.out]; have := HAL.out; omega⟩, ⟨by rw [← HE.out]; exact Kd.R_below HO.out HB5.out⟩, ⟨below_then HB1.out HB1.out.size HB5.out⟩⟩
  ·have hde : i = l1.length := by omega
   have hxlt : decide (x < (l1.length : Int)) = false := decide_eq_false (by omega)
   have he : acc = x9 := by
    have := HP.out
    rw [hde, List.drop_eq_nil_of_le (by simp), foldO] at this
    exact Option.some.inj this
   subst he
   clear hx hde hlt hi hg
   obtain ⟨A7, c7, e7⟩ := Kd.R_slice HO.out
   subst e7
   go_wp2
   go_ret2
   exact ⟨_, rfl, Kd.R_lower HO.out HB0.out.size, below_then HB0.out HB0.out.size HB1.out⟩

/-! ### spec_NeedlessHints: function 43 -/
def spec_NeedlessHints.l0 : Nat → List (S35) → List Int → List ByteArray → Int → Int → Int → Option (List Int × Bool)
 | 0, _, _, _, _, _, _ => none
 | k + 1, x1, x6, x7, x8, x22, x23 => if x23 < x22 then ((some (([] : List (S35)) : List (S35))).bind fun y438 => (if 0 ≤ x23 then (if x23 ≤ (x1.length : Int) then ((some (x1.take (x23 : Int).toNat : List (S35))).bind fun y441 => (if y438.length + y441.length < 4398046511104 then ((some (y438 ++ y441 : List (S35))).bind fun y445 => (if 0 ≤ (wrap64 (x23 + 1)) then (if (wrap64 (x23 + 1)) ≤ (x1.length : Int) then ((some (x1.drop ((wrap64 (x23 + 1)) : Int).toNat : List (S35))).bind fun y448 => (if y445.length + y448.length < 4398046511104 then ((spec_hiFitting.f k x7 (y445 ++ y448)).bind fun t455 => (if (t455.length : Int) = x8 then (if x6.length < 17592186044416 then (spec_NeedlessHints.l0 k x1 (x6 ++ [x23]) x7 x8 x22 (wrap64 (x23 + 1))) else (none)) else (spec_NeedlessHints.l0 k x1 x6 x7 x8 x22 (wrap64 (x23 + 1))))) else (none))) else (none)) else (none))) else (none))) else (none)) else (none))) else (some (x6, true))
def spec_NeedlessHints.f (k : Nat) (a0_0 : Int) (a0_1 : Int) (l1 : List (S35)) : Option (List Int × Bool) := (spec_hiAsked.f k a0_0 a0_1 l1).bind fun t431 => (if t431 = true then ((spec_hiAll.f k a0_0 a0_1).bind fun t432 => ((spec_hiFitting.f k t432 l1).bind fun t435 => (spec_NeedlessHints.l0 k l1 ([] : List Int) t432 (t435.length : Int) (l1.length : Int) 0))) else (some (([] : List Int), false)))
theorem spec_NeedlessHints.mono_l : ∀ k, (∀ y0 y1 y2 y3 y4 y5, LeO (spec_NeedlessHints.l0 k y0 y1 y2 y3 y4 y5) (spec_NeedlessHints.l0 (k + 1) y0 y1 y2 y3 y4 y5))
 | 0 => fun _ _ _ _ _ _ r h => by simp [spec_NeedlessHints.l0] at h
 | k + 1 => by
  have ih0 := spec_NeedlessHints.mono_l k
  ·intro y0 y1 y2 y3 y4 y5
   unfold spec_NeedlessHints.l0
   repeat' first
   | (with_reducible first | exact ih0 _ _ _ _ _ _ | exact spec_hiAll.mono _ _ _ | exact spec_hiAsked.mono _ _ _ _ | exact spec_hiFitting.mono _ _ _ | exact LeO.refl _ | exact LeO.none _ | refine LeO.ite ?_ ?_ | refine LeO.bind ?_ (fun _ => ?_))
   | exact ih0 _ _ _ _ _ _
   | exact spec_hiAll.mono _ _ _
   | exact spec_hiAsked.mono _ _ _ _
   | exact spec_hiFitting.mono _ _ _
   | exact LeO.none _
   | refine LeO.ite ?_ ?_
   | refine LeO.bind ?_ (fun _ => ?_)
theorem spec_NeedlessHints.mono : ∀ a0 a1 a2 k, LeO (spec_NeedlessHints.f k a0 a1 a2) (spec_NeedlessHints.f (k + 1) a0 a1 a2) := by
 intro a0 a1 a2 k
 have ih0 := spec_NeedlessHints.mono_l k
 unfold spec_NeedlessHints.f
 repeat' first
   | (with_reducible first | exact ih0 _ _ _ _ _ _ | exact spec_hiAll.mono _ _ _ | exact spec_hiAsked.mono _ _ _ _ | exact spec_hiFitting.mono _ _ _ | exact LeO.refl _ | exact LeO.none _ | refine LeO.ite ?_ ?_ | refine LeO.bind ?_ (fun _ => ?_))
   | exact ih0 _ _ _ _ _ _
   | exact spec_hiAll.mono _ _ _
   | exact spec_hiAsked.mono _ _ _ _
   | exact spec_hiFitting.mono _ _ _
   | exact LeO.none _
   | refine LeO.ite ?_ ?_
   | refine LeO.bind ?_ (fun _ => ?_)
def spec_NeedlessHints.T9 : Bool × List (List Nat × List Nat) := (true, [([], []), ([], []), ([], []), ([1, 2], [1, 2]), ([0, 3], [0, 3]), ([], []), ([], []), ([6], [6]), ([5, 7], [5, 7]), ([4, 8, 4], [4, 8]), ([9, 9, 0, 1, 2, 3, 4, 5, 6, 7, 8, 9], [9])])
def spec_NeedlessHints.B9 : List Nat := [0, 0, 0, 6, 15, 0, 0, 64, 224, 511, 1023]
theorem spec_NeedlessHints.tab9 : rtab .any (opsOf Tryz.f43 9) = spec_NeedlessHints.T9 := by kernel_rfl
theorem spec_NeedlessHints.bits9 : waitsOk spec_NeedlessHints.T9.2 spec_NeedlessHints.B9 = true := by kernel_rfl
theorem spec_NeedlessHints.calls (k : Nat) (a0_0 : Int) (a0_1 : Int) (A1 : Option Addr) (c1 : Nat) (l1 : List (S35)) (r1 : List Int) (r2 : Bool) (w : World) (hr1 : Kd.C k35 w A1 l1.length l1) (hc1 : l1.length ≤ c1) (h : spec_NeedlessHints.f k a0_0 a0_1 l1 = some (r1, r2)) :
  Calls Tryz.prog 43 #[.agg #[.int .i64 a0_0, .int .i64 a0_1], .slice A1 l1.length c1] w fun e w' => ∃ v0_ : Value, e = .returned (.tuple #[v0_, .bool r2]) ∧ Kd.R (Kd.int .i64) 3 w' w.heap.size (fun _ => True) v0_ r1 ∧ Below w.heap.size w w' := by
 have hu25 := Tryz.underlying25
 have HR1 := Aside0.mk hr1
 have HC1 := Aside0.mk hc1
 clear hr1 hc1
 have HB := Aside0.mk (Below.refl w.heap.size w)
 have H := h
 unfold spec_NeedlessHints.f at H
 clear h
 replace H := Option.bind_eq_some_iff.mp H
 obtain ⟨t431, A30, H⟩ := H
 (try dsimp only at H)
 have A3 := Aside0.mk A30
 clear A30
 by_cases c4 : t431 = true
 ·subst c4
  replace H := zt H
  replace H := Option.bind_eq_some_iff.mp H
  obtain ⟨t432, A50, H⟩ := H
  (try dsimp only at H)
  have A5 := Aside0.mk A50
  clear A50
  replace H := Option.bind_eq_some_iff.mp H
  obtain ⟨t435, A60, H⟩ := H
  (try dsimp only at H)
  have A6 := Aside0.mk A60
  clear A60
  have H' := Aside0.mk H
  clear H
  go_enter Tryz.func43, Tryz.ntmps43
  go_wp2_with (first | ((with_reducible refine gate_dst (N := 2) rfl ?_); refine box_event ?hg (N := 2) ?hd (cs := #[.int .i64 a0_0, .int .i64 a0_1]) (t := 25) ?hr ?_; (case hd => rfl); (case hg => rfl); (case hr => first | (go_simp; done) | (go_simp; rfl)); intro gb430 hg w7 hbox hb; have BK430 := Aside0.mk (hbox); have GW430 : Aside0 (w.heap.size ≤ gb430) := gW hg; have GE430 := GW430; replace HB := Aside0.mk (below_step bB hb); clear hb hbox hg; have hcz8_0 := cZ BK430 0 (.int .i64 a0_0); have hcz8_1 := cZ BK430 1 (.int .i64 a0_1); have hfz8_0 := blk_frozen BK430.out 0; have hfz8_1 := blk_frozen BK430.out 1) | ((with_reducible refine gate_callee (f := 80) rfl ?_); refine goesL_ (some 13) rfl rfl Tryz.func80 (by kernel_rfl) rfl #[.agg #[.int .i64 a0_0, .int .i64 a0_1], .slice A1 l1.length c1] rfl lM ?_; (with_reducible refine (spec_hiAsked.calls k a0_0 a0_1 _ _ l1 true _ ?side1 ?side2 A3.out).mono ?_); (case side1 => exact cS (Kd.C_below HR1.out HB.out)); (case side2 => exact HC1.out); rintro e w9 ⟨rfl, hb⟩; refine ⟨_, rfl, ?_⟩; replace BK430 := bW BK430 hb; replace HB := Aside0.mk (below_step bG hb); (try clear hb); have hcz10_0 := cZ BK430 0 (.int .i64 a0_0); have hcz10_1 := cZ BK430 1 (.int .i64 a0_1); have hfz10_0 := blk_frozen BK430.out 0; have hfz10_1 := blk_frozen BK430.out 1) | ((with_reducible refine gate_callee (f := 66) rfl ?_); refine goesL_ (some 16) rfl rfl Tryz.func66 (by kernel_rfl) rfl #[.agg #[.int .i64 a0_0, .int .i64 a0_1]] rfl lM ?_; (with_reducible refine (spec_hiAll.calls k a0_0 a0_1 t432 _ A5.out).mono ?_); rintro e w11 ⟨v433, rfl, ho0, hb⟩; refine ⟨_, rfl, ?_⟩; have HO434 := Aside0.mk (Kd.R_lower ho0 (below_size bG)); replace BK430 := bW BK430 hb; replace HB := Aside0.mk (below_step bG hb); (try clear hb); (try clear ho0); obtain ⟨Ao12, co12, eo12⟩ := Kd.R_slice HO434.out; subst eo12) | ((with_reducible refine gate_callee (f := 73) rfl ?_); refine goesL_ (some 19) rfl rfl Tryz.func73 (by kernel_rfl) rfl #[.slice Ao12 t432.length co12, .slice A1 l1.length c1] rfl lM ?_; (with_reducible refine (spec_hiFitting.calls k _ _ t432 _ _ l1 t435 _ ?side1 ?side2 ?side3 ?side4 A6.out).mono ?_); (case side1 => exact cS ((Kd.R_reads' HO434.out).2.2)); (case side2 => exact (Kd.R_reads' HO434.out).2.1); (case side3 => exact cS (Kd.C_below HR1.out HB.out)); (case side4 => exact HC1.out); rintro e w13 ⟨v436, rfl, ho0, hb⟩; refine ⟨_, rfl, ?_⟩; have HO437 := Aside0.mk (Kd.R_lower (Kd.R_new' ho0 (Kd.R_lt (kR HO434))) (below_size bG)); replace HO434 := Aside0.mk (Kd.R_elder' (kR HO434) (Kd.R_base ho0) hb); replace BK430 := bW BK430 hb; replace HB := Aside0.mk (below_step bG hb); (try clear hb); (try clear ho0); obtain ⟨Ao14, co14, eo14⟩ := Kd.R_slice HO437.out; subst eo14))
  go_loopg [6, 23] k (fun kq v6 v23 w' => ∃ (x6_1 : List Int) (x23_1 : Int), v23 = .int .i64 x23_1 ∧ Aside0 (spec_NeedlessHints.l0 kq l1 x6_1 t432 (t435.length : Int) (l1.length : Int) x23_1 = some (r1, r2)) ∧ Aside0 (kq ≤ k) ∧ Aside0 (Kd.R (Kd.int .i64) 3 w' w.heap.size (fun _ => True) v6 x6_1) ∧ Aside0 (Kd.R Kd.string 9 w' w.heap.size (fun _ => True) (.slice Ao12 t432.length co12) t432) ∧ Aside0 (w'.heap[gb430]? = some (.cells #[.int .i64 a0_0, .int .i64 a0_1] 25 (0, 0))) ∧ Aside0 (Below w.heap.size w w'))
  case atStart => exact ⟨(([] : List Int)), (0), fR, H', ⟨Nat.le_refl _⟩, ⟨by first | exact Kd.R_nil _ _ _ _ _ | exact Kd.N_nil _ _ _ _ _ | exact Kd.V_nil _ _ _ _ _ | exact Kd.Q_nil _ _ _ _ _ | exact Kd.S_nil _ _ _ _ _⟩, ⟨by (with_reducible repeat (first | apply Kd.R_alloc | apply Kd.R_drewN | apply Kd.R_drew)); exact Kd.R_mono HO434.out (fun _ hk => trivial)⟩, ⟨bK⟩, ⟨bG⟩⟩
  case round =>
   clear H'
   try clear c1
   try clear p2
   try clear c4
   try clear c6
   try clear c7
   try clear c8
   try clear hcz10_0
   try clear hcz10_1
   try clear hcz8_0
   try clear hcz8_1
   try clear hfz10_0
   try clear hfz10_1
   try clear hfz8_0
   try clear hfz8_1
   obtain ⟨x6_1, x23_1, rfl, HA, HK1, HO_6, HO_7, BK430, HB⟩ := hrel
   cases gk with
   | zero => exact absurd HA.out (by simp [spec_NeedlessHints.l0])
   | succ k1 =>
    have H := HA.out
    clear HA
    simp only [spec_NeedlessHints.l0] at H
    by_cases c15 : x23_1 < (l1.length : Int)
    ·rw [if_pos c15] at H
     have c15b0 : decide (x23_1 < (l1.length : Int)) = true := decide_eq_true c15
     clear c15
     obtain ⟨y438, hy438⟩ : ∃ y_ : List (S35), y_ = (([] : List (S35))) := ⟨_, rfl⟩
     replace H : (if 0 ≤ x23_1 then (if x23_1 ≤ (l1.length : Int) then ((some (l1.take (x23_1 : Int).toNat : List (S35))).bind fun y441 => (if y438.length + y441.length < 4398046511104 then ((some (y438 ++ y441 : List (S35))).bind fun y445 => (if 0 ≤ (wrap64 (x23_1 + 1)) then (if (wrap64 (x23_1 + 1)) ≤ (l1.length : Int) then ((some (l1.drop ((wrap64 (x23_1 + 1)) : Int).toNat : List (S35))).bind fun y448 => (if y445.length + y448.length < 4398046511104 then ((spec_hiFitting.f k1 t432 (y445 ++ y448)).bind fun t455 => (if (t455.length : Int) = (t435.length : Int) then (if x6_1.length < 17592186044416 then (spec_NeedlessHints.l0 k1 l1 (x6_1 ++ [x23_1]) t432 (t435.length : Int) (l1.length : Int) (wrap64 (x23_1 + 1))) else (none)) else (spec_NeedlessHints.l0 k1 l1 x6_1 t432 (t435.length : Int) (l1.length : Int) (wrap64 (x23_1 + 1))))) else (none))) else (none)) else (none))) else (none))) else (none)) else (none)) = some (r1, r2) := hZ hy438 H
     have Ny438 := Aside0.mk hy438
     clear hy438
     replace H := nz H; obtain ⟨c16, H⟩ := H
     have c16b0 := eq_true c16
     have c16b1 : decide (0 ≤ x23_1) = true := decide_eq_true c16
     clear c16
     replace H := nz H; obtain ⟨c17, H⟩ := H
     have c17b0 := eq_true c17
     have c17b1 : decide (x23_1 ≤ (l1.length : Int)) = true := decide_eq_true c17
     clear c17
     obtain ⟨y441, hy441⟩ : ∃ y_ : List (S35), y_ = (l1.take (x23_1 : Int).toNat) := ⟨_, rfl⟩
     replace H : (if y438.length + y441.length < 4398046511104 then ((some (y438 ++ y441 : List (S35))).bind fun y445 => (if 0 ≤ (wrap64 (x23_1 + 1)) then (if (wrap64 (x23_1 + 1)) ≤ (l1.length : Int) then ((some (l1.drop ((wrap64 (x23_1 + 1)) : Int).toNat : List (S35))).bind fun y448 => (if y445.length + y448.length < 4398046511104 then ((spec_hiFitting.f k1 t432 (y445 ++ y448)).bind fun t455 => (if (t455.length : Int) = (t435.length : Int) then (if x6_1.length < 17592186044416 then (spec_NeedlessHints.l0 k1 l1 (x6_1 ++ [x23_1]) t432 (t435.length : Int) (l1.length : Int) (wrap64 (x23_1 + 1))) else (none)) else (spec_NeedlessHints.l0 k1 l1 x6_1 t432 (t435.length : Int) (l1.length : Int) (wrap64 (x23_1 + 1))))) else (none))) else (none)) else (none))) else (none)) = some (r1, r2) := hZ hy441 H
     have Ny441 := Aside0.mk hy441
     clear hy441
     replace H := nz H; obtain ⟨c18, H⟩ := H
     have LMc18 := Aside0.mk c18
     clear c18
     obtain ⟨y445, hy445⟩ : ∃ y_ : List (S35), y_ = (y438 ++ y441) := ⟨_, rfl⟩
     replace H : (if 0 ≤ (wrap64 (x23_1 + 1)) then (if (wrap64 (x23_1 + 1)) ≤ (l1.length : Int) then ((some (l1.drop ((wrap64 (x23_1 + 1)) : Int).toNat : List (S35))).bind fun y448 => (if y445.length + y448.length < 4398046511104 then ((spec_hiFitting.f k1 t432 (y445 ++ y448)).bind fun t455 => (if (t455.length : Int) = (t435.length : Int) then (if x6_1.length < 17592186044416 then (spec_NeedlessHints.l0 k1 l1 (x6_1 ++ [x23_1]) t432 (t435.length : Int) (l1.length : Int) (wrap64 (x23_1 + 1))) else (none)) else (spec_NeedlessHints.l0 k1 l1 x6_1 t432 (t435.length : Int) (l1.length : Int) (wrap64 (x23_1 + 1))))) else (none))) else (none)) else (none)) = some (r1, r2) := hZ hy445 H
     have Ny445 := Aside0.mk hy445
     clear hy445
     obtain ⟨ji19, hji19⟩ : ∃ j_ : Int, (wrap64 (x23_1 + 1)) = j_ := ⟨_, rfl⟩
     replace H : (if 0 ≤ (ji19) then (if (ji19) ≤ (l1.length : Int) then ((some (l1.drop ((ji19) : Int).toNat : List (S35))).bind fun y448 => (if y445.length + y448.length < 4398046511104 then ((spec_hiFitting.f k1 t432 (y445 ++ y448)).bind fun t455 => (if (t455.length : Int) = (t435.length : Int) then (if x6_1.length < 17592186044416 then (spec_NeedlessHints.l0 k1 l1 (x6_1 ++ [x23_1]) t432 (t435.length : Int) (l1.length : Int) ji19) else (none)) else (spec_NeedlessHints.l0 k1 l1 x6_1 t432 (t435.length : Int) (l1.length : Int) ji19))) else (none))) else (none)) else (none)) = some (r1, r2) := by first | (rw [hji19] at H; exact H) | (simp only [hji19] at H ⊢; exact H)
     have hji19w : (IntKind.i64.wrap (x23_1 + 1)) = ji19 := (i64_w _).trans hji19
     replace H := nz H; obtain ⟨c20, H⟩ := H
     have c20b0 := eq_true c20
     have c20b1 : decide (0 ≤ (ji19)) = true := decide_eq_true c20
     clear c20
     replace H := nz H; obtain ⟨c21, H⟩ := H
     have c21b0 := eq_true c21
     have c21b1 : decide ((ji19) ≤ (l1.length : Int)) = true := decide_eq_true c21
     clear c21
     obtain ⟨y448, hy448⟩ : ∃ y_ : List (S35), y_ = (l1.drop ((ji19) : Int).toNat) := ⟨_, rfl⟩
     replace H : (if y445.length + y448.length < 4398046511104 then ((spec_hiFitting.f k1 t432 (y445 ++ y448)).bind fun t455 => (if (t455.length : Int) = (t435.length : Int) then (if x6_1.length < 17592186044416 then (spec_NeedlessHints.l0 k1 l1 (x6_1 ++ [x23_1]) t432 (t435.length : Int) (l1.length : Int) ji19) else (none)) else (spec_NeedlessHints.l0 k1 l1 x6_1 t432 (t435.length : Int) (l1.length : Int) ji19))) else (none)) = some (r1, r2) := hZ hy448 H
     have Ny448 := Aside0.mk hy448
     clear hy448
     replace H := nz H; obtain ⟨c22, H⟩ := H
     have LMc22 := Aside0.mk c22
     clear c22
     obtain ⟨y452, hy452⟩ : ∃ y_ : List (S35), y_ = (y445 ++ y448) := ⟨_, rfl⟩
     replace H : ((spec_hiFitting.f k1 t432 y452).bind fun t455 => (if (t455.length : Int) = (t435.length : Int) then (if x6_1.length < 17592186044416 then (spec_NeedlessHints.l0 k1 l1 (x6_1 ++ [x23_1]) t432 (t435.length : Int) (l1.length : Int) ji19) else (none)) else (spec_NeedlessHints.l0 k1 l1 x6_1 t432 (t435.length : Int) (l1.length : Int) ji19))) = some (r1, r2) := hZ hy452 H
     have Ny452 := Aside0.mk hy452
     clear hy452
     replace H := Option.bind_eq_some_iff.mp H
     obtain ⟨t455, A230, H⟩ := H
     (try dsimp only at H)
     have A23 := Aside0.mk A230
     clear A230
     by_cases c24 : (t455.length : Int) = (t435.length : Int)
     ·rw [if_pos c24] at H
      have c24b0 : ((t455.length : Int) == (t435.length : Int)) = true := beq_iff_eq.mpr c24
      have c24b1 : ((t455.length : Int) != (t435.length : Int)) = false := bne_eq_false_iff_eq.mpr c24
      have c24b2 : (t455.length == t435.length) = true := by first | simpa using c24 | (simp at c24 ⊢; omega)
      clear c24
      replace H := nz H; obtain ⟨c25, H⟩ := H
      have LMc25 := Aside0.mk c25
      clear c25
      obtain ⟨y458, hy458⟩ : ∃ y_ : List Int, y_ = (x6_1 ++ [x23_1]) := ⟨_, rfl⟩
      replace H : (spec_NeedlessHints.l0 k1 l1 y458 t432 (t435.length : Int) (l1.length : Int) ji19) = some (r1, r2) := hZ hy458 H
      have Ny458 := Aside0.mk hy458
      clear hy458
      have H' := Aside0.mk H
      clear H
      try go_wp2
      have n0_ := Aside0.mk (Kd.R_drew HO_6.out)
      have n1_ := Aside0.mk (Kd.R_drew HO_7.out)
      have n2_ := Aside0.mk (blk_drew BK430.out)
      have n3_ := Aside0.mk (below_drew1 HB.out)
      clear HO_6
      clear HO_7
      clear BK430
      clear HB
      have HO_6 := n0_
      have HO_7 := n1_
      have BK430 := n2_
      have HB := n3_
      clear n0_ n1_ n2_ n3_
      have q27 : (x23_1 : Int) ≤ ((l1.length : Int) : Int) := oD
      obtain ⟨i027, hi027, _, hsz27, _⟩ := info_parts info35
      have hroom27 : l1.length ≤ c1 := HC1.out
      have hC27 : Kd.C k35 _ A1 l1.length l1 := HR1.out
      have hcut27 := cut_to (P := Tryz.prog) 28 35 .i64 Tryz.underlying28 hi027 A1 l1.length c1 x23_1 (oD) q27 hroom27
      have hr27 := Kd.C_take (m := (x23_1 : Int).toNat) hC27 (by omega)
      have hy27 : y441.length = (x23_1 : Int).toNat := (by rw [Ny441.out, List.length_take]; omega)
      rw [← Ny441.out] at hr27
      rw [← hy27] at hcut27
      have HR444 := Aside0.mk hr27
      have HC444 := Aside0.mk (show y441.length ≤ c1 from by omega)
      clear hr27 hC27 hroom27 hi027 hsz27
      have KY27 := Aside0.mk hy27
      clear hy27
      replace q27 := eq_true q27
      have q28 : ((ji19) : Int) ≤ ((l1.length : Int) : Int) := oD
      obtain ⟨i028, hi028, _, hsz28, _⟩ := info_parts info35
      have hroom28 : l1.length ≤ c1 := HC1.out
      have hC28 : Kd.C k35 _ A1 l1.length l1 := HR1.out
      have q028 : (0 : Int) ≤ ((ji19) : Int) := oD
      have hcut28 := cut_from (P := Tryz.prog) 28 35 .i64 Tryz.underlying28 hi028 3 hsz28 A1 l1.length c1 (ji19) q028 q28
      have hr28 := Kd.C_drop (m := ((ji19) : Int).toNat) (c := c1) hC28 (by omega) hroom28
      obtain ⟨A28, hA28⟩ : ∃ A_, A_ = (if c1 = ((ji19) : Int).toNat then A1 else (A1 : Option Addr).map (·.add (((ji19) : Int).toNat * 3))) := ⟨_, rfl⟩
      obtain ⟨c28, hc28⟩ : ∃ c_, c_ = c1 - ((ji19) : Int).toNat := ⟨_, rfl⟩
      have hy28 : y448.length = l1.length - ((ji19) : Int).toNat := (by rw [Ny448.out, List.length_drop] <;> omega)
      rw [show (l1).drop ((ji19) : Int).toNat = y448 from Ny448.out.symm] at hr28
      replace hr28 : Kd.C k35 _ A28 y448.length y448 := (by rw [hA28]; exact hr28)
      rw [← hy28, ← hA28, ← hc28] at hcut28
      have HR451 := Aside0.mk hr28
      have HC451 := Aside0.mk (show y448.length ≤ c28 from by rw [hy28, hc28]; exact Nat.sub_le_sub_right hroom28 _)
      clear hr28 hC28 hroom28 hi028 hsz28 hc28
      have KY28 := Aside0.mk hy28
      have KA28 := Aside0.mk hA28
      clear hy28 hA28
      replace q28 := eq_true q28
      refine start_ (n := 11) (S := fun w' => True) (ds := []) #[false, false, false, false, false, false, false, false, false, false, false] (by kernel_rfl) rfl rfl trivial (fun hHeld => ?_); refine with_tabW spec_NeedlessHints.tab9 spec_NeedlessHints.bits9 (fun HT_ HW_ => ?_)
      generalize wr.drew = w26 at HO_6 HO_7 BK430 HB HR444 HR451 hHeld ⊢
      refine pure_ (i := 1) (N := some 27) (v := ?_) (a' := ?_) #[false, true, false, false, false, false, false, false, false, false, false] rfl rfl (any_of HT_.out (by kernel_rfl)) (fun _ _ _ h => h) (Or.inl ⟨by rfl, ?_⟩) ?_ ?_
      rotate_left
      ·intro w'
       go_simp
       with_reducible rfl
      rotate_left
      ·simp only [Act.put, List.setIfInBounds_toArray, List.set_cons_zero, List.set_cons_succ, i64_w, i32_w]
       rfl
      refine pure_ (i := 2) (N := some 28) (v := ?_) (a' := ?_) #[false, true, true, false, false, false, false, false, false, false, false] rfl rfl (any_of HT_.out (by kernel_rfl)) (fun _ _ _ h => h) (Or.inl ⟨by rfl, ?_⟩) ?_ ?_
      rotate_left
      ·intro w'
       go_simp
       with_reducible rfl
      rotate_left
      ·simp only [Act.put, List.setIfInBounds_toArray, List.set_cons_zero, List.set_cons_succ, i64_w, i32_w]
       rfl
      refine pure_ (i := 3) (N := some 29) (v := ?_) (a' := ?_) #[false, true, true, true, false, false, false, false, false, false, false] rfl rfl (any_of HT_.out (by kernel_rfl)) (fun _ _ _ h => h) (Or.inl ⟨by rfl, ?_⟩) ?_ ?_
      rotate_left
      ·intro w'
       go_simp
       with_reducible rfl
      rotate_left
      ·simp only [Act.put, List.setIfInBounds_toArray, List.set_cons_zero, List.set_cons_succ, i64_w, i32_w]
       rfl
      refine pure_ (i := 5) (N := some 31) (v := ?_) (a' := ?_) #[false, true, true, true, false, true, false, false, false, false, false] rfl rfl (any_of HT_.out (by kernel_rfl)) (fun _ _ _ h => h) (Or.inl ⟨by rfl, ?_⟩) ?_ ?_
      rotate_left
      ·intro w'
       go_simp
       with_reducible rfl
      rotate_left
      ·simp only [Act.put, List.setIfInBounds_toArray, List.set_cons_zero, List.set_cons_succ, i64_w, i32_w]
       rfl
      refine pure_ (i := 6) (N := some 32) (v := ?_) (a' := ?_) #[false, true, true, true, false, true, true, false, false, false, false] rfl rfl (any_of HT_.out (by kernel_rfl)) (fun _ _ _ h => h) (Or.inl ⟨by rfl, ?_⟩) ?_ ?_
      rotate_left
      ·intro w'
       go_simp
       with_reducible rfl
      rotate_left
      ·simp only [Act.put, List.setIfInBounds_toArray, List.set_cons_zero, List.set_cons_succ, i64_w, i32_w]
       rfl
      refine pure_ (i := 7) (N := some 33) (v := ?_) (a' := ?_) #[false, true, true, true, false, true, true, true, false, false, false] rfl rfl (any_of HT_.out (by kernel_rfl)) (fun _ _ _ h => h) (Or.inl ⟨by rfl, ?_⟩) ?_ ?_
      rotate_left
      ·intro w'
       go_simp
       with_reducible rfl
      rotate_left
      ·simp only [Act.put, List.setIfInBounds_toArray, List.set_cons_zero, List.set_cons_succ, i64_w, i32_w]
       rfl
      refine pure_ (i := 8) (N := some 34) (v := ?_) (a' := ?_) #[false, true, true, true, false, true, true, true, true, false, false] rfl rfl (any_of HT_.out (by kernel_rfl)) (fun _ _ _ h => h) (Or.inl ⟨by rfl, ?_⟩) ?_ ?_
      rotate_left
      ·intro w'
       go_simp
       with_reducible rfl
      rotate_left
      ·simp only [Act.put, List.setIfInBounds_toArray, List.set_cons_zero, List.set_cons_succ, i64_w, i32_w]
       rfl
      refine one_ (i := 0) (N := some 26) #[true, true, true, true, false, true, true, true, true, false, false] rfl rfl (one_of HT_.out (by kernel_rfl)) (by decide) (fun K hK => ?_)
      refine Kd.R_lit_step k35 _ 35 ?hg (N := 26) ?hd (xs := ([] : List (S35))) (inner := []) (ok := fun _ => True) (okp := fun _ => True) ?hr ?hp (fun _ hk => hk) trivial (Below.refl _ _) (Nat.le_refl _) (by simp) ?_; (case hd => rfl); (case hg => rfl); (case hr => first | (go_simp; done) | (go_simp; rfl)); (case hp => exact (Reps.none _ _))
      intro v439 w29 ho30 hb hg_ hnew_
      clear hg_ hnew_
      (first | rw [← Ny438.out] at ho30 | (simp only [Int.reduceToNat] at ho30; rw [← Ny438.out] at ho30))
      have n0_ := Aside0.mk (Kd.R_below (kR HO_6) hb)
      have n1_ := Aside0.mk (Kd.R_below (kR HO_7) hb)
      have n2_ := Aside0.mk (Kd.R_lower ho30 (below_size bG))
      have n3_ := Aside0.mk (blk_below (g := gb430) (o := .cells #[.int .i64 a0_0, .int .i64 a0_1] 25 (0, 0)) bK hb)
      have n4_ := Aside0.mk (below_step bG hb)
      clear HO_6
      clear HO_7
      clear BK430
      clear HB
      have HO_6 := n0_
      have HO_7 := n1_
      have HO440 := n2_
      have BK430 := n3_
      have HB := n4_
      clear n0_ n1_ n2_ n3_ n4_
      clear hb ho30
      refine hK.out _ _ trivial (fun hHeld => ?_)
      clear hK K
      refine norm_ (a' := ?_) ?_ ?_
      rotate_left
      ·show Act.put _ (some 26) _ = _
       simp only [Act.put, List.setIfInBounds_toArray, List.set_cons_zero, List.set_cons_succ, i64_w, i32_w]
       rfl
      refine one_ (i := 4) (N := some 30) #[true, true, true, true, true, true, true, true, true, false, false] rfl rfl (one_of HT_.out (by kernel_rfl)) (by decide) (fun K hK => ?_)
      refine Kd.R_append_rows_step k35 (w0 := w) w.heap.size (by rfl) (.tmp 26) (.tmp 29) 28 35 (.agg #[(.string ⟨#[]⟩), (.int .i64 0), (.int .i64 0)]) 32 rfl Tryz.underlying28 info35 rfl (by decide) (by omega) v439 y438 y441 _ _ _ (fun _ => True) (fun _ => False) rfl rfl ?aO ?aR (fun _ _ h => h) (fun _ h => h.elim) ?aF ?aB ?aS ?aL ?_
      (case aR => exact cS (Kd.C_below HR444.out HB.out))
      (case aB => exact bG)
      (case aF => exact (fun _ _ => trivial))
      (case aO => exact (kR HO440))
      (case aS => exact (below_size bG))
      (case aL => have := LMc18.out; omega)
      intro v446 w31 ho hb hg hat
      rw [← Ny445.out] at ho
      have n0_ := Aside0.mk (Kd.R_over' (kR HO_6) (Kd.R_typed (kR HO440)) (by decide) hg)
      have n1_ := Aside0.mk (Kd.R_over' (kR HO_7) (Kd.R_typed (kR HO440)) (by decide) hg)
      have n2_ := Aside0.mk (blk_grown (g := gb430) (o := .cells #[.int .i64 a0_0, .int .i64 a0_1] 25 (0, 0)) bK hg (Kd.R_ne HO440.out BK430.out (by decide)))
      have n3_ := Aside0.mk (hb)
      have n4_ := Aside0.mk (ho)
      clear HO_6
      clear HO_7
      clear BK430
      clear HB
      clear HO440
      have HO_6 := n0_
      have HO_7 := n1_
      have BK430 := n2_
      have HB := n3_
      have HO447 := n4_
      clear n0_ n1_ n2_ n3_ n4_
      clear ho hb hg hat
      refine hK.out _ _ trivial (fun hHeld => ?_)
      clear hK K
      refine norm_ (a' := ?_) ?_ ?_
      rotate_left
      ·show Act.put _ (some 30) _ = _
       simp only [Act.put, List.setIfInBounds_toArray, List.set_cons_zero, List.set_cons_succ, i64_w, i32_w]
       rfl
      refine one_ (i := 9) (N := some 35) #[true, true, true, true, true, true, true, true, true, true, false] rfl rfl (one_of HT_.out (by kernel_rfl)) (by decide) (fun K hK => ?_)
      refine Kd.R_append_rows_step k35 (w0 := w) w.heap.size (by rfl) (.tmp 30) (.tmp 34) 28 35 (.agg #[(.string ⟨#[]⟩), (.int .i64 0), (.int .i64 0)]) 32 rfl Tryz.underlying28 info35 rfl (by decide) (by omega) v446 y445 y448 _ _ _ (fun _ => True) (fun _ => False) rfl rfl ?aO ?aR (fun _ _ h => h) (fun _ h => h.elim) ?aF ?aB ?aS ?aL ?_
      (case aR => exact cS (Kd.C_below HR451.out HB.out))
      (case aB => exact bG)
      (case aF => exact (fun _ _ => trivial))
      (case aO => exact (kR HO447))
      (case aS => exact (below_size bG))
      (case aL => have := LMc22.out; omega)
      intro v453 w32 ho hb hg hat
      rw [← Ny452.out] at ho
      have n0_ := Aside0.mk (Kd.R_over' (kR HO_6) (Kd.R_typed (kR HO447)) (by decide) hg)
      have n1_ := Aside0.mk (Kd.R_over' (kR HO_7) (Kd.R_typed (kR HO447)) (by decide) hg)
      have n2_ := Aside0.mk (blk_grown (g := gb430) (o := .cells #[.int .i64 a0_0, .int .i64 a0_1] 25 (0, 0)) bK hg (Kd.R_ne HO447.out BK430.out (by decide)))
      have n3_ := Aside0.mk (hb)
      have n4_ := Aside0.mk (ho)
      clear HO_6
      clear HO_7
      clear BK430
      clear HB
      clear HO447
      have HO_6 := n0_
      have HO_7 := n1_
      have BK430 := n2_
      have HB := n3_
      have HO454 := n4_
      clear n0_ n1_ n2_ n3_ n4_
      clear ho hb hg hat
      refine hK.out _ _ trivial (fun hHeld => ?_)
      clear hK K
      refine norm_ (a' := ?_) ?_ ?_
      rotate_left
      ·show Act.put _ (some 35) _ = _
       simp only [Act.put, List.setIfInBounds_toArray, List.set_cons_zero, List.set_cons_succ, i64_w, i32_w]
       rfl
      refine pure_ (i := 10) (N := some 10) (v := ?_) (a' := ?_) #[true, true, true, true, true, true, true, true, true, true, true] rfl rfl (any_of HT_.out (by kernel_rfl)) (fun _ _ _ h => h) (Or.inl ⟨by rfl, ?_⟩) ?_ ?_
      rotate_left
      ·intro w'
       go_simp
       with_reducible rfl
      rotate_left
      ·simp only [Act.put, List.setIfInBounds_toArray, List.set_cons_zero, List.set_cons_succ, i64_w, i32_w]
       rfl
      refine done_ (done_of HT_.out (by kernel_rfl)) ?_
      obtain ⟨Ao33, co33, eo33⟩ := Kd.R_slice HO454.out
      subst eo33
      try go_wp2_with (first | ((with_reducible refine gate_callee (f := 73) rfl ?_); refine goesL_ (some 38) rfl rfl Tryz.func73 (by kernel_rfl) rfl #[.slice Ao12 t432.length co12, .slice Ao33 y452.length co33] rfl lM ?_; (with_reducible refine (spec_hiFitting.calls k1 _ _ t432 _ _ y452 t455 _ ?side1 ?side2 ?side3 ?side4 A23.out).mono ?_); (case side1 => exact cS ((Kd.R_reads' HO_7.out).2.2)); (case side2 => exact (Kd.R_reads' HO_7.out).2.1); (case side3 => exact cS ((Kd.R_reads' HO454.out).2.2)); (case side4 => exact (Kd.R_reads' HO454.out).2.1); rintro e w34 ⟨v456, rfl, ho0, hb⟩; refine ⟨_, rfl, ?_⟩; replace HO_6 := Aside0.mk (Kd.R_below (kR HO_6) hb); replace HO454 := Aside0.mk (Kd.R_below (kR HO454) hb); have HO457 := Aside0.mk (Kd.R_lower (Kd.R_new' ho0 (Kd.R_lt (kR HO_7))) (below_size bG)); replace HO_7 := Aside0.mk (Kd.R_elder' (kR HO_7) (Kd.R_base ho0) hb); replace BK430 := bW BK430 hb; replace HB := Aside0.mk (below_step bG hb); (try clear hb); (try clear ho0); obtain ⟨Ao35, co35, eo35⟩ := Kd.R_slice HO457.out; subst eo35) | ((with_reducible refine gate_builtin (b := .append) (xs := #[.tmp 42, .tmp 44]) rfl ?_); at_builtin; refine Kd.R_append (Kd.int .i64) (w0 := w) w.heap.size rfl (.tmp 42) (.tmp 44) 55 3 (.int .i64 0) 8 rfl Tryz.underlying55 info3 rfl (by decide) (by omega) u6 x6_1 x23_1 [.int .i64 x23_1] (fun _ => True) (fun _ => False) rfl rfl ?aP (fun _ hk => hk.elim) ?aF ?aO ?aB ?aS ?aL ?_; (case aP => exact rfl); (case aB => exact bG); (case aF => exact (fun _ _ => trivial)); (case aO => exact (kR HO_6)); (case aS => exact (below_size bG)); (case aL => have := LMc25.out; omega); intro v459 w36 ho hb hg hat; rw [← Ny458.out] at ho; have n0_ := Aside0.mk (Kd.R_over' (kR HO_7) (Kd.R_typed (kR HO_6)) (by decide) hg); have n1_ := Aside0.mk (blk_grown (g := gb430) (o := .cells #[.int .i64 a0_0, .int .i64 a0_1] 25 (0, 0)) bK hg (Kd.R_ne HO_6.out BK430.out (by decide))); have n2_ := Aside0.mk (Kd.R_over' (kR HO454) (Kd.R_typed (kR HO_6)) (by decide) hg); have n3_ := Aside0.mk (Kd.R_over' (kR HO457) (Kd.R_typed (kR HO_6)) (by decide) hg); have n4_ := Aside0.mk (hb); have n5_ := Aside0.mk (ho); clear HO_7; clear BK430; clear HO454; clear HO457; clear HB; clear HO_6; have HO_7 := n0_; have BK430 := n1_; have HO454 := n2_; have HO457 := n3_; have HB := n4_; have HO460 := n5_; clear n0_ n1_ n2_ n3_ n4_ n5_; clear ho hb hg hat))
      go_roundg k1
      case measure => have := HK1.out; omega
      case rel => exact ⟨(y458), (ji19), (by first | rfl | (simp; done) | (simp only [← hji19] <;> (first | rfl | simp)) | (simp [*]; done)), H', ⟨by have := HK1.out; omega⟩, ⟨kR HO460⟩, ⟨by (with_reducible repeat (first | apply Kd.R_alloc | apply Kd.R_drewN | apply Kd.R_drew)); exact Kd.R_mono HO_7.out (fun _ hk => trivial)⟩, ⟨bK⟩, ⟨bG⟩⟩
     ·rw [if_neg c24] at H
      have c24b0 : ((t455.length : Int) == (t435.length : Int)) = false := beq_eq_false_iff_ne.mpr c24
      have c24b1 : ((t455.length : Int) != (t435.length : Int)) = true := bne_iff_ne.mpr c24
      have c24b2 : (t455.length == t435.length) = false := by first | simpa using c24 | (simp at c24 ⊢; omega)
      have H' := Aside0.mk H
      clear H
      try go_wp2
      have n0_ := Aside0.mk (Kd.R_drew HO_6.out)
      have n1_ := Aside0.mk (Kd.R_drew HO_7.out)
      have n2_ := Aside0.mk (blk_drew BK430.out)
      have n3_ := Aside0.mk (below_drew1 HB.out)
      clear HO_6
      clear HO_7
      clear BK430
      clear HB
      have HO_6 := n0_
      have HO_7 := n1_
      have BK430 := n2_
      have HB := n3_
      clear n0_ n1_ n2_ n3_
      have q38 : (x23_1 : Int) ≤ ((l1.length : Int) : Int) := oD
      obtain ⟨i038, hi038, _, hsz38, _⟩ := info_parts info35
      have hroom38 : l1.length ≤ c1 := HC1.out
      have hC38 : Kd.C k35 _ A1 l1.length l1 := HR1.out
      have hcut38 := cut_to (P := Tryz.prog) 28 35 .i64 Tryz.underlying28 hi038 A1 l1.length c1 x23_1 (oD) q38 hroom38
      have hr38 := Kd.C_take (m := (x23_1 : Int).toNat) hC38 (by omega)
      have hy38 : y441.length = (x23_1 : Int).toNat := (by rw [Ny441.out, List.length_take]; omega)
      rw [← Ny441.out] at hr38
      rw [← hy38] at hcut38
      have HR444 := Aside0.mk hr38
      have HC444 := Aside0.mk (show y441.length ≤ c1 from by omega)
      clear hr38 hC38 hroom38 hi038 hsz38
      have KY38 := Aside0.mk hy38
      clear hy38
      replace q38 := eq_true q38
      have q39 : ((ji19) : Int) ≤ ((l1.length : Int) : Int) := oD
      obtain ⟨i039, hi039, _, hsz39, _⟩ := info_parts info35
      have hroom39 : l1.length ≤ c1 := HC1.out
      have hC39 : Kd.C k35 _ A1 l1.length l1 := HR1.out
      have q039 : (0 : Int) ≤ ((ji19) : Int) := oD
      have hcut39 := cut_from (P := Tryz.prog) 28 35 .i64 Tryz.underlying28 hi039 3 hsz39 A1 l1.length c1 (ji19) q039 q39
      have hr39 := Kd.C_drop (m := ((ji19) : Int).toNat) (c := c1) hC39 (by omega) hroom39
      obtain ⟨A39, hA39⟩ : ∃ A_, A_ = (if c1 = ((ji19) : Int).toNat then A1 else (A1 : Option Addr).map (·.add (((ji19) : Int).toNat * 3))) := ⟨_, rfl⟩
      obtain ⟨c39, hc39⟩ : ∃ c_, c_ = c1 - ((ji19) : Int).toNat := ⟨_, rfl⟩
      have hy39 : y448.length = l1.length - ((ji19) : Int).toNat := (by rw [Ny448.out, List.length_drop] <;> omega)
      rw [show (l1).drop ((ji19) : Int).toNat = y448 from Ny448.out.symm] at hr39
      replace hr39 : Kd.C k35 _ A39 y448.length y448 := (by rw [hA39]; exact hr39)
      rw [← hy39, ← hA39, ← hc39] at hcut39
      have HR451 := Aside0.mk hr39
      have HC451 := Aside0.mk (show y448.length ≤ c39 from by rw [hy39, hc39]; exact Nat.sub_le_sub_right hroom39 _)
      clear hr39 hC39 hroom39 hi039 hsz39 hc39
      have KY39 := Aside0.mk hy39
      have KA39 := Aside0.mk hA39
      clear hy39 hA39
      replace q39 := eq_true q39
      refine start_ (n := 11) (S := fun w' => True) (ds := []) #[false, false, false, false, false, false, false, false, false, false, false] (by kernel_rfl) rfl rfl trivial (fun hHeld => ?_); refine with_tabW spec_NeedlessHints.tab9 spec_NeedlessHints.bits9 (fun HT_ HW_ => ?_)
      generalize wr.drew = w37 at HO_6 HO_7 BK430 HB HR444 HR451 hHeld ⊢
      refine pure_ (i := 1) (N := some 27) (v := ?_) (a' := ?_) #[false, true, false, false, false, false, false, false, false, false, false] rfl rfl (any_of HT_.out (by kernel_rfl)) (fun _ _ _ h => h) (Or.inl ⟨by rfl, ?_⟩) ?_ ?_
      rotate_left
      ·intro w'
       go_simp
       with_reducible rfl
      rotate_left
      ·simp only [Act.put, List.setIfInBounds_toArray, List.set_cons_zero, List.set_cons_succ, i64_w, i32_w]
       rfl
      refine pure_ (i := 2) (N := some 28) (v := ?_) (a' := ?_) #[false, true, true, false, false, false, false, false, false, false, false] rfl rfl (any_of HT_.out (by kernel_rfl)) (fun _ _ _ h => h) (Or.inl ⟨by rfl, ?_⟩) ?_ ?_
      rotate_left
      ·intro w'
       go_simp
       with_reducible rfl
      rotate_left
      ·simp only [Act.put, List.setIfInBounds_toArray, List.set_cons_zero, List.set_cons_succ, i64_w, i32_w]
       rfl
      refine pure_ (i := 3) (N := some 29) (v := ?_) (a' := ?_) #[false, true, true, true, false, false, false, false, false, false, false] rfl rfl (any_of HT_.out (by kernel_rfl)) (fun _ _ _ h => h) (Or.inl ⟨by rfl, ?_⟩) ?_ ?_
      rotate_left
      ·intro w'
       go_simp
       with_reducible rfl
      rotate_left
      ·simp only [Act.put, List.setIfInBounds_toArray, List.set_cons_zero, List.set_cons_succ, i64_w, i32_w]
       rfl
      refine pure_ (i := 5) (N := some 31) (v := ?_) (a' := ?_) #[false, true, true, true, false, true, false, false, false, false, false] rfl rfl (any_of HT_.out (by kernel_rfl)) (fun _ _ _ h => h) (Or.inl ⟨by rfl, ?_⟩) ?_ ?_
      rotate_left
      ·intro w'
       go_simp
       with_reducible rfl
      rotate_left
      ·simp only [Act.put, List.setIfInBounds_toArray, List.set_cons_zero, List.set_cons_succ, i64_w, i32_w]
       rfl
      refine pure_ (i := 6) (N := some 32) (v := ?_) (a' := ?_) #[false, true, true, true, false, true, true, false, false, false, false] rfl rfl (any_of HT_.out (by kernel_rfl)) (fun _ _ _ h => h) (Or.inl ⟨by rfl, ?_⟩) ?_ ?_
      rotate_left
      ·intro w'
       go_simp
       with_reducible rfl
      rotate_left
      ·simp only [Act.put, List.setIfInBounds_toArray, List.set_cons_zero, List.set_cons_succ, i64_w, i32_w]
       rfl
      refine pure_ (i := 7) (N := some 33) (v := ?_) (a' := ?_) #[false, true, true, true, false, true, true, true, false, false, false] rfl rfl (any_of HT_.out (by kernel_rfl)) (fun _ _ _ h => h) (Or.inl ⟨by rfl, ?_⟩) ?_ ?_
      rotate_left
      ·intro w'
       go_simp
       with_reducible rfl
      rotate_left
      ·simp only [Act.put, List.setIfInBounds_toArray, List.set_cons_zero, List.set_cons_succ, i64_w, i32_w]
       rfl
      refine pure_ (i := 8) (N := some 34) (v := ?_) (a' := ?_) #[false, true, true, true, false, true, true, true, true, false, false] rfl rfl (any_of HT_.out (by kernel_rfl)) (fun _ _ _ h => h) (Or.inl ⟨by rfl, ?_⟩) ?_ ?_
      rotate_left
      ·intro w'
       go_simp
       with_reducible rfl
      rotate_left
      ·simp only [Act.put, List.setIfInBounds_toArray, List.set_cons_zero, List.set_cons_succ, i64_w, i32_w]
       rfl
      refine one_ (i := 0) (N := some 26) #[true, true, true, true, false, true, true, true, true, false, false] rfl rfl (one_of HT_.out (by kernel_rfl)) (by decide) (fun K hK => ?_)
      refine Kd.R_lit_step k35 _ 35 ?hg (N := 26) ?hd (xs := ([] : List (S35))) (inner := []) (ok := fun _ => True) (okp := fun _ => True) ?hr ?hp (fun _ hk => hk) trivial (Below.refl _ _) (Nat.le_refl _) (by simp) ?_; (case hd => rfl); (case hg => rfl); (case hr => first | (go_simp; done) | (go_simp; rfl)); (case hp => exact (Reps.none _ _))
      intro v439 w40 ho41 hb hg_ hnew_
      clear hg_ hnew_
      (first | rw [← Ny438.out] at ho41 | (simp only [Int.reduceToNat] at ho41; rw [← Ny438.out] at ho41))
      have n0_ := Aside0.mk (Kd.R_below (kR HO_6) hb)
      have n1_ := Aside0.mk (Kd.R_below (kR HO_7) hb)
      have n2_ := Aside0.mk (Kd.R_lower ho41 (below_size bG))
      have n3_ := Aside0.mk (blk_below (g := gb430) (o := .cells #[.int .i64 a0_0, .int .i64 a0_1] 25 (0, 0)) bK hb)
      have n4_ := Aside0.mk (below_step bG hb)
      clear HO_6
      clear HO_7
      clear BK430
      clear HB
      have HO_6 := n0_
      have HO_7 := n1_
      have HO440 := n2_
      have BK430 := n3_
      have HB := n4_
      clear n0_ n1_ n2_ n3_ n4_
      clear hb ho41
      refine hK.out _ _ trivial (fun hHeld => ?_)
      clear hK K
      refine norm_ (a' := ?_) ?_ ?_
      rotate_left
      ·show Act.put _ (some 26) _ = _
       simp only [Act.put, List.setIfInBounds_toArray, List.set_cons_zero, List.set_cons_succ, i64_w, i32_w]
       rfl
      refine one_ (i := 4) (N := some 30) #[true, true, true, true, true, true, true, true, true, false, false] rfl rfl (one_of HT_.out (by kernel_rfl)) (by decide) (fun K hK => ?_)
      refine Kd.R_append_rows_step k35 (w0 := w) w.heap.size (by rfl) (.tmp 26) (.tmp 29) 28 35 (.agg #[(.string ⟨#[]⟩), (.int .i64 0), (.int .i64 0)]) 32 rfl Tryz.underlying28 info35 rfl (by decide) (by omega) v439 y438 y441 _ _ _ (fun _ => True) (fun _ => False) rfl rfl ?aO ?aR (fun _ _ h => h) (fun _ h => h.elim) ?aF ?aB ?aS ?aL ?_
      (case aR => exact cS (Kd.C_below HR444.out HB.out))
      (case aB => exact bG)
      (case aF => exact (fun _ _ => trivial))
      (case aO => exact (kR HO440))
      (case aS => exact (below_size bG))
      (case aL => have := LMc18.out; omega)
      intro v446 w42 ho hb hg hat
      rw [← Ny445.out] at ho
      have n0_ := Aside0.mk (Kd.R_over' (kR HO_6) (Kd.R_typed (kR HO440)) (by decide) hg)
      have n1_ := Aside0.mk (Kd.R_over' (kR HO_7) (Kd.R_typed (kR HO440)) (by decide) hg)
      have n2_ := Aside0.mk (blk_grown (g := gb430) (o := .cells #[.int .i64 a0_0, .int .i64 a0_1] 25 (0, 0)) bK hg (Kd.R_ne HO440.out BK430.out (by decide)))
      have n3_ := Aside0.mk (hb)
      have n4_ := Aside0.mk (ho)
      clear HO_6
      clear HO_7
      clear BK430
      clear HB
      clear HO440
      have HO_6 := n0_
      have HO_7 := n1_
      have BK430 := n2_
      have HB := n3_
      have HO447 := n4_
      clear n0_ n1_ n2_ n3_ n4_
      clear ho hb hg hat
      refine hK.out _ _ trivial (fun hHeld => ?_)
      clear hK K
      refine norm_ (a' := ?_) ?_ ?_
      rotate_left
      ·show Act.put _ (some 30) _ = _
       simp only [Act.put, List.setIfInBounds_toArray, List.set_cons_zero, List.set_cons_succ, i64_w, i32_w]
       rfl
      refine one_ (i := 9) (N := some 35) #[true, true, true, true, true, true, true, true, true, true, false] rfl rfl (one_of HT_.out (by kernel_rfl)) (by decide) (fun K hK => ?_)
      refine Kd.R_append_rows_step k35 (w0 := w) w.heap.size (by rfl) (.tmp 30) (.tmp 34) 28 35 (.agg #[(.string ⟨#[]⟩), (.int .i64 0), (.int .i64 0)]) 32 rfl Tryz.underlying28 info35 rfl (by decide) (by omega) v446 y445 y448 _ _ _ (fun _ => True) (fun _ => False) rfl rfl ?aO ?aR (fun _ _ h => h) (fun _ h => h.elim) ?aF ?aB ?aS ?aL ?_
      (case aR => exact cS (Kd.C_below HR451.out HB.out))
      (case aB => exact bG)
      (case aF => exact (fun _ _ => trivial))
      (case aO => exact (kR HO447))
      (case aS => exact (below_size bG))
      (case aL => have := LMc22.out; omega)
      intro v453 w43 ho hb hg hat
      rw [← Ny452.out] at ho
      have n0_ := Aside0.mk (Kd.R_over' (kR HO_6) (Kd.R_typed (kR HO447)) (by decide) hg)
      have n1_ := Aside0.mk (Kd.R_over' (kR HO_7) (Kd.R_typed (kR HO447)) (by decide) hg)
      have n2_ := Aside0.mk (blk_grown (g := gb430) (o := .cells #[.int .i64 a0_0, .int .i64 a0_1] 25 (0, 0)) bK hg (Kd.R_ne HO447.out BK430.out (by decide)))
      have n3_ := Aside0.mk (hb)
      have n4_ := Aside0.mk (ho)
      clear HO_6
      clear HO_7
      clear BK430
      clear HB
      clear HO447
      have HO_6 := n0_
      have HO_7 := n1_
      have BK430 := n2_
      have HB := n3_
      have HO454 := n4_
      clear n0_ n1_ n2_ n3_ n4_
      clear ho hb hg hat
      refine hK.out _ _ trivial (fun hHeld => ?_)
      clear hK K
      refine norm_ (a' := ?_) ?_ ?_
      rotate_left
      ·show Act.put _ (some 35) _ = _
       simp only [Act.put, List.setIfInBounds_toArray, List.set_cons_zero, List.set_cons_succ, i64_w, i32_w]
       rfl
      refine pure_ (i := 10) (N := some 10) (v := ?_) (a' := ?_) #[true, true, true, true, true, true, true, true, true, true, true] rfl rfl (any_of HT_.out (by kernel_rfl)) (fun _ _ _ h => h) (Or.inl ⟨by rfl, ?_⟩) ?_ ?_
      rotate_left
      ·intro w'
       go_simp
       with_reducible rfl
      rotate_left
      ·simp only [Act.put, List.setIfInBounds_toArray, List.set_cons_zero, List.set_cons_succ, i64_w, i32_w]
       rfl
      refine done_ (done_of HT_.out (by kernel_rfl)) ?_
      obtain ⟨Ao44, co44, eo44⟩ := Kd.R_slice HO454.out
      subst eo44
      try go_wp2_with (first | ((with_reducible refine gate_callee (f := 73) rfl ?_); refine goesL_ (some 38) rfl rfl Tryz.func73 (by kernel_rfl) rfl #[.slice Ao12 t432.length co12, .slice Ao44 y452.length co44] rfl lM ?_; (with_reducible refine (spec_hiFitting.calls k1 _ _ t432 _ _ y452 t455 _ ?side1 ?side2 ?side3 ?side4 A23.out).mono ?_); (case side1 => exact cS ((Kd.R_reads' HO_7.out).2.2)); (case side2 => exact (Kd.R_reads' HO_7.out).2.1); (case side3 => exact cS ((Kd.R_reads' HO454.out).2.2)); (case side4 => exact (Kd.R_reads' HO454.out).2.1); rintro e w45 ⟨v456, rfl, ho0, hb⟩; refine ⟨_, rfl, ?_⟩; replace HO_6 := Aside0.mk (Kd.R_below (kR HO_6) hb); replace HO454 := Aside0.mk (Kd.R_below (kR HO454) hb); have HO457 := Aside0.mk (Kd.R_lower (Kd.R_new' ho0 (Kd.R_lt (kR HO_7))) (below_size bG)); replace HO_7 := Aside0.mk (Kd.R_elder' (kR HO_7) (Kd.R_base ho0) hb); replace BK430 := bW BK430 hb; replace HB := Aside0.mk (below_step bG hb); (try clear hb); (try clear ho0); obtain ⟨Ao46, co46, eo46⟩ := Kd.R_slice HO457.out; subst eo46))
      go_roundg k1
      case measure => have := HK1.out; omega
      case rel => exact ⟨(x6_1), (ji19), (by first | rfl | (simp; done) | (simp only [← hji19] <;> (first | rfl | simp)) | (simp [*]; done)), H', ⟨by have := HK1.out; omega⟩, ⟨kR HO_6⟩, ⟨by (with_reducible repeat (first | apply Kd.R_alloc | apply Kd.R_drewN | apply Kd.R_drew)); exact Kd.R_mono HO_7.out (fun _ hk => trivial)⟩, ⟨bK⟩, ⟨bG⟩⟩
    ·rw [if_neg c15] at H
     have c15b0 : decide (x23_1 < (l1.length : Int)) = false := decide_eq_false c15
     clear c15
     simp only [Option.some.injEq, Prod.mk.injEq] at H
     obtain ⟨rfl, rfl⟩ := H
     go_wp2
     go_ret2
     exact ⟨_, rE, kR HO_6, bG⟩
 ·replace c4 := Bool.eq_false_iff.mpr c4
  subst c4
  replace H := zf H
  simp only [Option.some.injEq, Prod.mk.injEq] at H
  obtain ⟨rfl, rfl⟩ := H
  go_enter Tryz.func43, Tryz.ntmps43
  go_wp2_with (first | ((with_reducible refine gate_dst (N := 2) rfl ?_); refine box_event ?hg (N := 2) ?hd (cs := #[.int .i64 a0_0, .int .i64 a0_1]) (t := 25) ?hr ?_; (case hd => rfl); (case hg => rfl); (case hr => first | (go_simp; done) | (go_simp; rfl)); intro gb430 hg w47 hbox hb; have BK430 := Aside0.mk (hbox); have GW430 : Aside0 (w.heap.size ≤ gb430) := gW hg; have GE430 := GW430; replace HB := Aside0.mk (below_step bB hb); clear hb hbox hg; have hcz48_0 := cZ BK430 0 (.int .i64 a0_0); have hcz48_1 := cZ BK430 1 (.int .i64 a0_1); have hfz48_0 := blk_frozen BK430.out 0; have hfz48_1 := blk_frozen BK430.out 1) | ((with_reducible refine gate_callee (f := 80) rfl ?_); refine goesL_ (some 13) rfl rfl Tryz.func80 (by kernel_rfl) rfl #[.agg #[.int .i64 a0_0, .int .i64 a0_1], .slice A1 l1.length c1] rfl lM ?_; (with_reducible refine (spec_hiAsked.calls k a0_0 a0_1 _ _ l1 false _ ?side1 ?side2 A3.out).mono ?_); (case side1 => exact cS (Kd.C_below HR1.out HB.out)); (case side2 => exact HC1.out); rintro e w49 ⟨rfl, hb⟩; refine ⟨_, rfl, ?_⟩; replace BK430 := bW BK430 hb; replace HB := Aside0.mk (below_step bG hb); (try clear hb)))
  go_ret2
  exact ⟨_, rE, by first | exact Kd.R_nil _ _ _ _ _ | exact Kd.N_nil _ _ _ _ _ | exact Kd.V_nil _ _ _ _ _ | exact Kd.Q_nil _ _ _ _ _ | exact Kd.S_nil _ _ _ _ _, bG⟩

end Go.Proofs.YtcpnmiempaofdaaGreat.G
