-- Printed by hp.py, a program of this session: a machine's side of laws, out of the translation; Lean checks it.
import Derived.Test.YthpmpkmdjpaemaaGreatPx0
import Derived.Test.YthpmpkmdjpaemaaGreatPx2
import Derived.Test.YthpmpkmdjpaemaaGreatPx3
import Derived.Test.YthpmpkmdjpaemaaGreatPx4
namespace Go.Proofs.YthpmpkmdjpaemaaGreat.P
open Go.RowKit Go.Proofs.YthpmpkmdjpaemaaGreatW.PrintWords Go.Proofs.YthpmpkmdjpaemaaGreatW.PrintLast Go.Proofs.YthpmpkmdjpaemaaGreatW.PrintMore
attribute [local go_sem] max2_int min2_int max_two min_two max_three min_three max_four min_four   -- for this text's walks alone
set_option maxHeartbeats 8000000
set_option maxRecDepth 100000
set_option linter.unusedVariables false
set_option linter.unusedSimpArgs false

/-! ### spec_DrawIsTurnOrder: function 5 -/
theorem results_row_tmp {P : Program} {fn : Func} {p u : Tmp} {ty : TypeId} (h : fn.results = #[.cell p ty, .tmp u]) (tmps : Array Value) (w : World) (g : Nat) (t : TypeId) (cs : Array Value) (fr : Nat × Nat) (d : TypeDesc)
  (hp : tmps.getD p undef = .pointer (some ⟨g, 0, none⟩)) (hg : w.heap[g]? = some (.cells cs t fr)) (hu : P.underlying ty = some d) (hd : (match d with | .struct _ | .array _ _ => true | _ => false) = true) (hi : (P.info? ty).map (·.size) = some cs.size) :
  (results fn tmps).run P w = .ok (.tuple #[.agg cs, tmps.getD u undef]) w := by
 have hp' : tmps[p]?.getD undef = .pointer (some ⟨g, 0, none⟩) := by simpa using hp
 simp [results, h, hp', asAddr, run_loadVar_row w g t ty cs fr d hg hu hd hi]
theorem R_keepT {α : Type} {d : Kd α} {e g t base : Nat} {w w1 : World} {v : Value} {xs : List α} {cells : Array Value} (h : d.R e w base (fun _ => True) v xs) (hb : w.heap[g]? = some (.cells cells t (0, 0))) (ht : ∀ q, q ∈ e :: d.E → q ≠ t) (hk : KeepBut w w1 g none) : d.R e w1 base (fun _ => True) v xs := Kd.R_mono (Kd.R_keep (Kd.R_types h hb ht) hk (fun _ hk => hk.2)) (fun _ _ => trivial)
theorem R_setT {α : Type} {d : Kd α} {e g t base : Nat} {w : World} {v : Value} {xs : List α} {cells : Array Value} (h : d.R e w base (fun _ => True) v xs) (hb : w.heap[g]? = some (.cells cells t (0, 0))) (ht : ∀ q, q ∈ e :: d.E → q ≠ t) (j : Nat) (u : Value) : d.R e (w.setCell ⟨g, j, none⟩ u) base (fun _ => True) v xs := Kd.R_mono (Kd.R_far (p := ⟨g, j, none⟩) (Kd.R_types h hb ht) (fun _ hk => hk.2) u) (fun _ _ => trivial)
theorem kS_neL : ∀ q, q ∈ 9 :: (Kd.string).E → q ≠ 25 := by decide
theorem kS_neC : ∀ q, q ∈ 9 :: (Kd.string).E → q ≠ 47 := by decide
def ordRows (F : Int → Option ByteArray) : Nat → Nat → List ByteArray → Option (List ByteArray)
 | 0, _, out => some out
 | n + 1, i, out => (F (i : Int)).bind fun t => ordRows F n (i + 1) (out ++ [t])
theorem ordRows_mono (F G : Int → Option ByteArray) (h : ∀ i, LeO (F i) (G i)) : ∀ n i out, LeO (ordRows F n i out) (ordRows G n i out)
 | 0, _, _ => LeO.refl _
 | n + 1, i, out => LeO.bind (h _) (fun t => ordRows_mono F G h n (i + 1) _)
def spec_DrawIsTurnOrder.e (k : Nat) (l0 : List Int) (at_ sd m s c q : Int) (out : List ByteArray) : Option (Int × Int × List ByteArray) :=
 if q = 0 ∨ q = 1 then (ordRows (spec_orRound.f k m s) c.toNat 0 []).bind fun o => some (m, s, o)
 else if q = 2 then (ordRows (spec_orForth.f k m s) c.toNat 0 []).bind fun o => some (m, s, o)
 else if q = 3 then (spec_l1Cur_code1.f k l0 at_ sd m s).bind fun a => (spec_l1Cur_code1.f k l0 a.2.1 a.2.2 m s).bind fun b => some (m, s, out ++ [a.1, b.1])
 else some (m, s, out)
def spec_DrawIsTurnOrder.d (k : Nat) (l0 : List Int) (at_ sd m s c : Int) : Option (Int × Int × List ByteArray) :=
 (spec_l1Cur_pick.f l0 at_ sd 12).bind fun p => (ordRows (spec_orForth.f k m s) (min c.toNat p.1.toNat) 0 []).bind fun out => (spec_l1Cur_pick.f l0 p.2.1 p.2.2 6).bind fun q => spec_DrawIsTurnOrder.e k l0 q.2.1 q.2.2 m s c q.1 out
def spec_DrawIsTurnOrder.f (k : Nat) (l0 : List Int) : Option (Int × Int × List ByteArray) := (spec_l1Cur_lock.f l0 0 0).bind fun a => (spec_whGood.f a.1 a.2.1).bind fun g => if g = true then ((spec_whCount.f k a.1 a.2.1).bind fun c => if c > 100 then some (a.1, a.2.1, [⟨#[48]⟩]) else spec_DrawIsTurnOrder.d k l0 a.2.2.1 a.2.2.2 a.1 a.2.1 c) else some (a.1, a.2.1, [⟨#[48]⟩])
theorem spec_DrawIsTurnOrder.mono_e (l0 : List Int) (at_ sd m s c q : Int) (out : List ByteArray) (k : Nat) : LeO (spec_DrawIsTurnOrder.e k l0 at_ sd m s c q out) (spec_DrawIsTurnOrder.e (k + 1) l0 at_ sd m s c q out) :=
 LeO.ite (LeO.bind (ordRows_mono _ _ (fun i => spec_orRound.mono _ _ _ _) _ _ _) (fun _ => LeO.refl _)) (LeO.ite (LeO.bind (ordRows_mono _ _ (fun i => spec_orForth.mono _ _ _ _) _ _ _) (fun _ => LeO.refl _)) (LeO.ite (LeO.bind (spec_l1Cur_code1.mono _ _ _ _ _ _) (fun _ => LeO.bind (spec_l1Cur_code1.mono _ _ _ _ _ _) (fun _ => LeO.refl _))) (LeO.refl _)))
theorem spec_DrawIsTurnOrder.mono_d (l0 : List Int) (at_ sd m s c : Int) (k : Nat) : LeO (spec_DrawIsTurnOrder.d k l0 at_ sd m s c) (spec_DrawIsTurnOrder.d (k + 1) l0 at_ sd m s c) :=
 LeO.bind (LeO.refl _) (fun _ => LeO.bind (ordRows_mono _ _ (fun i => spec_orForth.mono _ _ _ _) _ _ _) (fun _ => LeO.bind (LeO.refl _) (fun _ => spec_DrawIsTurnOrder.mono_e _ _ _ _ _ _ _ _ _)))
theorem spec_DrawIsTurnOrder.mono : ∀ l0 k, LeO (spec_DrawIsTurnOrder.f k l0) (spec_DrawIsTurnOrder.f (k + 1) l0) := fun l0 k =>
 LeO.bind (LeO.refl _) (fun _ => LeO.bind (LeO.refl _) (fun _ => LeO.ite (LeO.bind (spec_whCount.mono _ _ _) (fun _ => LeO.ite (LeO.refl _) (spec_DrawIsTurnOrder.mono_d _ _ _ _ _ _ _))) (LeO.refl _)))
/-- What stands in the world between two steps: the result's cells, the lock's, the cursor, the row. -/
structure DOr (w : World) (n1 : Nat) (m s : Int) (l0 : List Int) (at_ sd : Int) (W : World) (v : Value) (out : List ByteArray) : Prop where
 bl : W.heap[w.heap.size]? = some (.cells #[.int .i64 0, .int .i64 0] 25 (0, 0))
 bn : W.heap[n1]? = some (.cells #[.int .i64 m, .int .i64 s] 25 (0, 0))
 ci : IsS47 w W (w.heap.size + 1) l0 at_ sd
 bb : Below w.heap.size w W
 rr : Kd.R Kd.string 9 W w.heap.size (fun _ => True) v out
theorem DOr.below {w : World} {n1 : Nat} {m s : Int} {l0 : List Int} {at_ sd : Int} {W W' : World} {v : Value} {out : List ByteArray} (h : DOr w n1 m s l0 at_ sd W v out) (hb : Below W.heap.size W W') : DOr w n1 m s l0 at_ sd W' v out :=
 ⟨blk_below h.bl hb, blk_below h.bn hb, h.ci.below hb, below_step h.bb hb, Kd.R_below h.rr hb⟩
theorem DOr.drew {w : World} {n1 : Nat} {m s : Int} {l0 : List Int} {at_ sd : Int} {W : World} {v : Value} {out : List ByteArray} (h : DOr w n1 m s l0 at_ sd W v out) : DOr w n1 m s l0 at_ sd W.drew v out :=
 ⟨blk_drew h.bl, blk_drew h.bn, h.ci.drew, below_drew1 h.bb, Kd.R_drew h.rr⟩
theorem DOr.alloc {w : World} {n1 : Nat} {m s : Int} {l0 : List Int} {at_ sd : Int} {W : World} {v : Value} {out : List ByteArray} (h : DOr w n1 m s l0 at_ sd W v out) (o : Obj) : DOr w n1 m s l0 at_ sd (W.alloc o) v out :=
 h.below (below_alloc (Below.refl _ _) o)
theorem DOr.cur {w : World} {n1 : Nat} {m s : Int} {l0 : List Int} {at_ sd at' sd' : Int} {W W' : World} {v : Value} {out : List ByteArray} (h : DOr w n1 m s l0 at_ sd W v out) (hn : n1 ≠ w.heap.size + 1)
  (hI : IsS47 w W' (w.heap.size + 1) l0 at' sd') (hB : Below w.heap.size w W') (hk : KeepBut W W' (w.heap.size + 1) none) : DOr w n1 m s l0 at' sd' W' v out :=
 ⟨(hk.2 w.heap.size (blk_lt h.bl) (by omega) (by simp)).trans h.bl, (hk.2 n1 (blk_lt h.bn) hn (by simp)).trans h.bn, hI, hB, by obtain ⟨Ac, cc, hcb, _, _⟩ := h.ci; exact R_keepT h.rr hcb kS_neC hk⟩
theorem DOr.app {w : World} {n1 : Nat} {m s : Int} {l0 : List Int} {at_ sd : Int} {W W' : World} {v v' : Value} {out out' : List ByteArray} (h : DOr w n1 m s l0 at_ sd W v out) (hr : Kd.R Kd.string 9 W' w.heap.size (fun _ => True) v' out')
  (hb : Below w.heap.size w W') (hg : W.grownBy W' v.ownBlock) : DOr w n1 m s l0 at_ sd W' v' out' :=
 ⟨blk_grown h.bl hg (Kd.R_ne h.rr h.bl (by decide)), blk_grown h.bn hg (Kd.R_ne h.rr h.bn (by decide)), h.ci.grown hg (h.ci.own_ne h.rr (by decide)), hb, hr⟩
theorem DOr.nil {w : World} {n1 : Nat} {m s : Int} {l0 : List Int} {at_ sd : Int} {W : World} {v : Value} {out : List ByteArray} (h : DOr w n1 m s l0 at_ sd W v out) : DOr w n1 m s l0 at_ sd W (.slice none 0 0) [] :=
 ⟨h.bl, h.bn, h.ci, h.bb, Kd.R_nil _ _ _ _ _⟩
theorem spec_DrawIsTurnOrder.calls (k : Nat) (A0 : Option Addr) (c0 : Nat) (l0 : List Int) (r1 r2 : Int) (r3 : List ByteArray) (w : World) (hr0 : Kd.C (Kd.int .u8) w A0 l0.length l0) (hc0 : l0.length ≤ c0) (h : spec_DrawIsTurnOrder.f k l0 = some (r1, r2, r3)) :
  Calls Tryz.prog 5 #[.slice A0 l0.length c0] w fun e w' => ∃ v2_ : Value, e = .returned (.tuple #[.agg #[.int .i64 r1, .int .i64 r2], v2_]) ∧ Kd.R Kd.string 9 w' w.heap.size (fun _ => True) v2_ r3 ∧ Below w.heap.size w w' := by
 have hu43 := Tryz.underlying47
 unfold spec_DrawIsTurnOrder.f at h
 obtain ⟨⟨m, s, at1, sd1⟩, h1, h⟩ := Option.bind_eq_some_iff.mp h
 obtain ⟨g, h2, h⟩ := Option.bind_eq_some_iff.mp h
 (try dsimp only at h h2)
 have hn1 : w.heap.size ≠ w.heap.size + 1 := by omega
 have hul := Tryz.underlying25
 have HIN := Aside0.mk info9
 have HI := Aside0.mk (cur_new2 w (.cells #[.int .i64 0, .int .i64 0] 25) A0 c0 l0 hr0)
 have H1 := Aside0.mk h1
 have H2 := Aside0.mk h2
 have H := Aside0.mk h
 clear hr0 hc0 h1 h2 h
 go_enter Tryz.func5, Tryz.ntmps5
 go_upto_region 3 with (go_at_call 26; refine (spec_l1Cur_lock.calls (w.heap.size + 1) l0 0 0 m s at1 sd1 w _ HI.out (below_alloc (below_alloc (Below.refl _ _) _) _) H1.out).mono ?_; rintro e w1 ⟨rfl, hI, hB, hk⟩; have hblk := (hk.2 w.heap.size (by simp; try omega) hn1 (by simp)).trans (blk_alloc (blk_new w _) _); have HBK := Aside0.mk hblk; have HI1 := Aside0.mk hI; have HB1 := Aside0.mk hB; clear hI hB hk hblk HI)
 have D0 : Aside0 (DOr w w1.heap.size m s l0 at1 sd1 (w1.alloc (.cells #[.int .i64 m, .int .i64 s] 25)) (.slice none 0 0) []) := ⟨⟨blk_alloc HBK.out _, blk_new w1 _, HI1.out.alloc _, below_alloc HB1.out _, Kd.R_nil _ _ _ _ _⟩⟩
 have hn2 : w1.heap.size ≠ w.heap.size + 1 := fun e => absurd HI1.out.lt (by rw [e]; exact Nat.lt_irrefl _)
 clear HBK HI1 HB1 H1
 generalize (w1.alloc (.cells #[.int .i64 m, .int .i64 s] 25)) = W0 at *
 generalize w1.heap.size = n1 at *
 have hd0 : W0.cell? ⟨n1, 0, none⟩ = some (.int .i64 m) := (blk_cell D0.out.bn 0).trans rfl
 have hd1 : W0.cell? ⟨n1, 1, none⟩ = some (.int .i64 s) := (blk_cell D0.out.bn 1).trans rfl
 have HN2 := Aside0.mk hn2
 clear hn2
 have h := H.out
 clear H
 cases g with
 | false =>
  rw [if_neg (by decide)] at h
  simp only [Option.some.injEq, Prod.mk.injEq] at h
  obtain ⟨rfl, rfl, rfl⟩ := h
  go_wp2_with (go_at_call 27; refine (spec_whGood.calls m s false _ H2.out).mono ?_; rintro e w2 ⟨rfl, hb⟩; have D2 := Aside0.mk (D0.out.below hb); clear hb D0 hd0 hd1; have hd0 : w2.cell? ⟨n1, 0, none⟩ = some (.int .i64 m) := (blk_cell D2.out.bn 0).trans rfl; have hd1 : w2.cell? ⟨n1, 1, none⟩ = some (.int .i64 s) := (blk_cell D2.out.bn 1).trans rfl; have D3 := Aside0.mk (D2.out.alloc (.cells #[.string ⟨#[48]⟩] 9)); have hc0 := (blk_cell D3.out.bl 0).trans rfl; have hc1 := (blk_cell D3.out.bl 1).trans rfl; have hf0 := blk_frozen D3.out.bl 0; have hf1 := blk_frozen D3.out.bl 1)
  (try simp only [Exit.inBlock, Exit.then])
  refine bodyPost_ret (results_row_tmp rfl _ _ w.heap.size 25 #[.int .i64 m, .int .i64 s] (0, 0) _ rfl (blk_put (blk_put D3.out.bl 0 _ rfl) 1 _ rfl) Tryz.underlying25 rfl (by kernel_rfl)) rfl ?_
  exact ⟨_, rfl, R_setT (R_setT (hw_R_lit Kd.string w2 9 w.heap.size w2.heap.size (xs := [⟨#[48]⟩]) (inner := [.string ⟨#[48]⟩]) (ok := fun _ => True) (okp := fun _ => False) rfl (Reps.one rfl (Reps.none _ _)) (fun _ h => h.elim) trivial D2.out.bb.size (by simp)) D3.out.bl kS_neL 0 _) (blk_put D3.out.bl 0 _ rfl) kS_neL 1 _, below_set' (below_set' D3.out.bb (Nat.le_refl _)) (Nat.le_refl _)⟩
 | true =>
  rw [if_pos rfl] at h
  obtain ⟨c, h3, h⟩ := Option.bind_eq_some_iff.mp h
  have H3 := Aside0.mk h3
  clear h3
  by_cases hc : c > 100
  case pos =>
   rw [if_pos hc] at h
   simp only [Option.some.injEq, Prod.mk.injEq] at h
   obtain ⟨rfl, rfl, rfl⟩ := h
   have hcb : decide (100 < c) = true := decide_eq_true hc
   clear hc
   go_wp2_with (first | (go_at_call 27; refine (spec_whGood.calls m s true _ H2.out).mono ?_; rintro e w2 ⟨rfl, hb⟩; have D2 := Aside0.mk (D0.out.below hb); clear hb D0 hd0 hd1; have hd0 : w2.cell? ⟨n1, 0, none⟩ = some (.int .i64 m) := (blk_cell D2.out.bn 0).trans rfl; have hd1 : w2.cell? ⟨n1, 1, none⟩ = some (.int .i64 s) := (blk_cell D2.out.bn 1).trans rfl) | (go_at_call 28; refine (spec_whCount.calls k m s c _ H3.out).mono ?_; rintro e w4 ⟨rfl, hb⟩; have D4 := Aside0.mk (D2.out.below hb); clear hb D2 hd0 hd1; have hd0 : w4.cell? ⟨n1, 0, none⟩ = some (.int .i64 m) := (blk_cell D4.out.bn 0).trans rfl; have hd1 : w4.cell? ⟨n1, 1, none⟩ = some (.int .i64 s) := (blk_cell D4.out.bn 1).trans rfl; have D3 := Aside0.mk (D4.out.alloc (.cells #[.string ⟨#[48]⟩] 9)); have hc0 := (blk_cell D3.out.bl 0).trans rfl; have hc1 := (blk_cell D3.out.bl 1).trans rfl; have hf0 := blk_frozen D3.out.bl 0; have hf1 := blk_frozen D3.out.bl 1))
   (try simp only [Exit.inBlock, Exit.then])
   refine bodyPost_ret (results_row_tmp rfl _ _ w.heap.size 25 #[.int .i64 m, .int .i64 s] (0, 0) _ rfl (blk_put (blk_put D3.out.bl 0 _ rfl) 1 _ rfl) Tryz.underlying25 rfl (by kernel_rfl)) rfl ?_
   exact ⟨_, rfl, R_setT (R_setT (hw_R_lit Kd.string w4 9 w.heap.size w4.heap.size (xs := [⟨#[48]⟩]) (inner := [.string ⟨#[48]⟩]) (ok := fun _ => True) (okp := fun _ => False) rfl (Reps.one rfl (Reps.none _ _)) (fun _ h => h.elim) trivial D4.out.bb.size (by simp)) D3.out.bl kS_neL 0 _) (blk_put D3.out.bl 0 _ rfl) kS_neL 1 _, below_set' (below_set' D3.out.bb (Nat.le_refl _)) (Nat.le_refl _)⟩
  case neg =>
   rw [if_neg hc] at h
   have hcb : decide (100 < c) = false := decide_eq_false hc
   unfold spec_DrawIsTurnOrder.d at h
   obtain ⟨⟨p, at2, sd2⟩, h4, h⟩ := Option.bind_eq_some_iff.mp h
   obtain ⟨out1, h5, h⟩ := Option.bind_eq_some_iff.mp h
   obtain ⟨⟨q, at3, sd3⟩, h6, h⟩ := Option.bind_eq_some_iff.mp h
   (try dsimp only at h h4 h5 h6)
   have HC := Aside0.mk hc
   have H4 := Aside0.mk h4
   have H6 := Aside0.mk h6
   have H := Aside0.mk h
   obtain ⟨N, hN⟩ : ∃ N : Nat, N = min c.toNat p.toNat := ⟨_, rfl⟩
   rw [← hN] at h5
   have HR0 := Aside0.mk h5
   have HN := Aside0.mk hN
   clear hc h4 h5 h6 h hN
   go_upto_region 7 with (first | (go_at_call 27; refine (spec_whGood.calls m s true _ H2.out).mono ?_; rintro e w2 ⟨rfl, hb⟩; have D2 := Aside0.mk (D0.out.below hb); clear hb D0 hd0 hd1; have hd0 : w2.cell? ⟨n1, 0, none⟩ = some (.int .i64 m) := (blk_cell D2.out.bn 0).trans rfl; have hd1 : w2.cell? ⟨n1, 1, none⟩ = some (.int .i64 s) := (blk_cell D2.out.bn 1).trans rfl) | (go_at_call 28; refine (spec_whCount.calls k m s c _ H3.out).mono ?_; rintro e w4 ⟨rfl, hb⟩; have D4 := Aside0.mk (D2.out.below hb); clear hb D2 hd0 hd1; have hd0 : w4.cell? ⟨n1, 0, none⟩ = some (.int .i64 m) := (blk_cell D4.out.bn 0).trans rfl; have hd1 : w4.cell? ⟨n1, 1, none⟩ = some (.int .i64 s) := (blk_cell D4.out.bn 1).trans rfl) | (go_at_call 29; refine (spec_l1Cur_pick.calls (w.heap.size + 1) l0 at1 sd1 12 p at2 sd2 w _ D4.out.ci D4.out.bb H4.out).mono ?_; rintro e w5 ⟨rfl, hI, hB, hk⟩; have D5 := Aside0.mk (D4.out.cur HN2.out hI hB hk); clear hI hB hk D4; (try clear hd0 hd1)))
   clear H2 H4
   go_wp2
   go_loopg [6, 8] N (fun gg v6 vk wr => ∃ (n i : Nat) (out : List ByteArray), vk = .int .i64 (i : Int) ∧ Aside0 (i + n = N) ∧ Aside0 (n ≤ gg) ∧ Aside0 (out.length ≤ i) ∧ Aside0 (ordRows (spec_orForth.f k m s) n i out = some out1) ∧ Aside0 (DOr w n1 m s l0 at2 sd2 wr v6 out))
   case atStart => exact ⟨N, 0, [], rfl, ⟨by omega⟩, ⟨Nat.le_refl _⟩, ⟨by simp⟩, HR0, D5⟩
   case round =>
    clear HR0 D5
    obtain ⟨n, i, out, rfl, HS, HG, HL, HR, D⟩ := hrel
    obtain ⟨Ao, co, rfl⟩ := Kd.R_slice D.out.rr
    have hd0 : wr.cell? ⟨n1, 0, none⟩ = some (.int .i64 m) := (blk_cell D.out.bn 0).trans rfl
    have hd1 : wr.cell? ⟨n1, 1, none⟩ = some (.int .i64 s) := (blk_cell D.out.bn 1).trans rfl
    cases n with
    | zero =>
     obtain rfl : out = out1 := by have := HR.out; simpa [ordRows] using this
     have hzz : (decide ((i : Int) < c) = true ∧ decide ((i : Int) < p) = false) ∨ decide ((i : Int) < c) = false := by
      by_cases hz : (i : Int) < c
      ·exact .inl ⟨decide_eq_true hz, decide_eq_false (by have := HS.out; have := HN.out; omega)⟩
      ·exact .inr (decide_eq_false hz)
     have hh := H.out
     have HLB : Aside0 (out.length ≤ 1000) := ⟨by have := HL.out; have := HS.out; have := HN.out; have := HC.out; omega⟩
     clear H HR HL HS HG HN
     rcases hzz with ⟨hz1, hz2⟩ | hz1
     all_goals
      go_upto_region 12 with (first | (go_at_call 28; refine (spec_whCount.calls k m s c _ H3.out).mono ?_; rintro e w4 ⟨rfl, hb⟩; have D6 := Aside0.mk (D.out.below hb); clear hb D hd0 hd1; have hd0 : w4.cell? ⟨n1, 0, none⟩ = some (.int .i64 m) := (blk_cell D6.out.bn 0).trans rfl; have hd1 : w4.cell? ⟨n1, 1, none⟩ = some (.int .i64 s) := (blk_cell D6.out.bn 1).trans rfl) | (go_at_call 29; refine (spec_l1Cur_pick.calls (w.heap.size + 1) l0 at2 sd2 6 q at3 sd3 w _ D6.out.ci D6.out.bb H6.out).mono ?_; rintro e w8 ⟨rfl, hI, hB, hk⟩; have D5 := Aside0.mk (D6.out.cur HN2.out hI hB hk); clear hI hB hk D6; (try clear hd0 hd1)))
      clear H6
      unfold spec_DrawIsTurnOrder.e at hh
      by_cases hq : q = 0 ∨ q = 1
      case pos =>
       rw [if_pos hq] at hh
       obtain ⟨out2, h7, hh⟩ := Option.bind_eq_some_iff.mp hh
       simp only [Option.some.injEq, Prod.mk.injEq] at hh
       obtain ⟨rfl, rfl, rfl⟩ := hh
       obtain ⟨N, hN⟩ : ∃ N : Nat, N = c.toNat := ⟨_, rfl⟩
       rw [← hN] at h7
       have HR0 := Aside0.mk h7
       have HN := Aside0.mk hN
       have D5' := Aside0.mk D5.out.nil
       clear D5 h7 hN
       have D5 := D5'
       clear D5'
       rcases hq with rfl | rfl
       all_goals
        go_wp2
        go_loopg [6, 9] N (fun gg v6 vk wr => ∃ (n i : Nat) (out : List ByteArray), vk = .int .i64 (i : Int) ∧ Aside0 (i + n = N) ∧ Aside0 (n ≤ gg) ∧ Aside0 (out.length ≤ i) ∧ Aside0 (ordRows (spec_orRound.f k m s) n i out = some out2) ∧ Aside0 (DOr w n1 m s l0 at3 sd3 wr v6 out))
        case atStart => exact ⟨N, 0, [], rfl, ⟨by omega⟩, ⟨Nat.le_refl _⟩, ⟨by simp⟩, HR0, D5⟩
        case round =>
         clear HR0 D5
         obtain ⟨n, i, out, rfl, HS, HG, HL, HR, D⟩ := hrel
         obtain ⟨Ao, co, rfl⟩ := Kd.R_slice D.out.rr
         have hd0 : wr.cell? ⟨n1, 0, none⟩ = some (.int .i64 m) := (blk_cell D.out.bn 0).trans rfl
         have hd1 : wr.cell? ⟨n1, 1, none⟩ = some (.int .i64 s) := (blk_cell D.out.bn 1).trans rfl
         cases n with
         | zero =>
          obtain rfl : out = out2 := by have := HR.out; simpa [ordRows] using this
          have hz1 : decide ((i : Int) < c) = false := decide_eq_false (by have := HS.out; have := HN.out; omega)
          go_wp2_with (go_at_call 28; refine (spec_whCount.calls k m s c _ H3.out).mono ?_; rintro e w4 ⟨rfl, hb⟩; have D6 := Aside0.mk (D.out.below hb); clear hb D hd0 hd1; have hd0 : w4.cell? ⟨n1, 0, none⟩ = some (.int .i64 m) := (blk_cell D6.out.bn 0).trans rfl; have hd1 : w4.cell? ⟨n1, 1, none⟩ = some (.int .i64 s) := (blk_cell D6.out.bn 1).trans rfl; have hc0 := (blk_cell D6.out.bl 0).trans rfl; have hc1 := (blk_cell D6.out.bl 1).trans rfl; have hf0 := blk_frozen D6.out.bl 0; have hf1 := blk_frozen D6.out.bl 1)
          (try simp only [Exit.inBlock, Exit.then])
          refine bodyPost_ret (results_row_tmp rfl _ _ w.heap.size 25 #[.int .i64 m, .int .i64 s] (0, 0) _ rfl (blk_put (blk_put D6.out.bl 0 _ rfl) 1 _ rfl) Tryz.underlying25 rfl (by kernel_rfl)) rfl ?_
          exact ⟨_, rfl, R_setT (R_setT (D6.out.rr) D6.out.bl kS_neL 0 _) (blk_put D6.out.bl 0 _ rfl) kS_neL 1 _, below_set' (below_set' D6.out.bb (Nat.le_refl _)) (Nat.le_refl _)⟩
         | succ n =>
          have hz1 : decide ((i : Int) < c) = true := decide_eq_true (by have := HS.out; have := HN.out; omega)
          obtain ⟨x, hx, hr⟩ := Option.bind_eq_some_iff.mp (show ((spec_orRound.f k m s (i : Int)).bind fun t => ordRows (spec_orRound.f k m s) n (i + 1) (out ++ [t])) = some out2 from HR.out)
          have HX := Aside0.mk hx
          have HR2 := Aside0.mk hr
          clear hx hr HR
          go_wp2_with (first | (go_at_call 28; refine (spec_whCount.calls k m s c _ H3.out).mono ?_; rintro e w4 ⟨rfl, hb⟩; have D6 := Aside0.mk (D.out.below hb); clear hb D hd0 hd1; have hd0 : w4.cell? ⟨n1, 0, none⟩ = some (.int .i64 m) := (blk_cell D6.out.bn 0).trans rfl; have hd1 : w4.cell? ⟨n1, 1, none⟩ = some (.int .i64 s) := (blk_cell D6.out.bn 1).trans rfl) | (go_at_call 31; refine (spec_orRound.calls k m s (i : Int) x _ HX.out).mono ?_; rintro e w7 ⟨rfl, hb⟩; have D7 := Aside0.mk (D6.out.below hb); clear hb D6 hd0 hd1) | ((with_reducible refine gate_builtin (b := .append) (xs := #[.tmp 56, .tmp 60]) rfl ?_); at_builtin; refine Kd.R_append Kd.string (w0 := w) w.heap.size rfl (.tmp 56) (.tmp 60) 26 9 (.string ⟨#[]⟩) 16 rfl Tryz.underlying26 HIN.out rfl (by decide) (by omega) (.slice Ao out.length co) out x [.string x] (fun _ => True) (fun _ => False) rfl rfl ?aP (fun _ hk => hk.elim) ?aF ?aO ?aB ?aS ?aL ?_; (case aP => exact rfl); (case aB => exact D7.out.bb); (case aF => exact (fun _ _ => trivial)); (case aO => exact D7.out.rr); (case aS => exact below_size D7.out.bb); (case aL => have := HL.out; have := HS.out; have := HN.out; have := HC.out; omega); intro v9 w9 ho hb hg hat; have D9 := Aside0.mk (D7.out.app ho hb hg); clear ho hb hg hat D7))
          go_roundg n
          case measure => have := HG.out; omega
          case rel => exact ⟨n, i + 1, out ++ [x], by rw [show wrap64 ((i : Int) + 1) = ((i + 1 : Nat) : Int) from by unfold wrap64; have := HS.out; have := HN.out; have := HC.out; omega], ⟨by have := HS.out; omega⟩, ⟨Nat.le_refl _⟩, ⟨by have := HL.out; simp; omega⟩, HR2, D9⟩
      case neg =>
       rw [if_neg hq] at hh
       have hq0 : (q == 0) = false := by simp; omega
       have hq1 : (q == 1) = false := by simp; omega
       clear hq
       by_cases hq : q = 2
       case pos =>
        rw [if_pos hq] at hh
        obtain ⟨out2, h7, hh⟩ := Option.bind_eq_some_iff.mp hh
        simp only [Option.some.injEq, Prod.mk.injEq] at hh
        obtain ⟨rfl, rfl, rfl⟩ := hh
        obtain ⟨N, hN⟩ : ∃ N : Nat, N = c.toNat := ⟨_, rfl⟩
        rw [← hN] at h7
        have HR0 := Aside0.mk h7
        have HN := Aside0.mk hN
        have D5' := Aside0.mk D5.out.nil
        clear D5 h7 hN
        have D5 := D5'
        clear D5'
        have hq2 : (q == 2) = true := by simp [hq]
        clear hq
        go_wp2
        go_loopg [6, 10] N (fun gg v6 vk wr => ∃ (n i : Nat) (out : List ByteArray), vk = .int .i64 (i : Int) ∧ Aside0 (i + n = N) ∧ Aside0 (n ≤ gg) ∧ Aside0 (out.length ≤ i) ∧ Aside0 (ordRows (spec_orForth.f k m s) n i out = some out2) ∧ Aside0 (DOr w n1 m s l0 at3 sd3 wr v6 out))
        case atStart => exact ⟨N, 0, [], rfl, ⟨by omega⟩, ⟨Nat.le_refl _⟩, ⟨by simp⟩, HR0, D5⟩
        case round =>
         clear HR0 D5
         obtain ⟨n, i, out, rfl, HS, HG, HL, HR, D⟩ := hrel
         obtain ⟨Ao, co, rfl⟩ := Kd.R_slice D.out.rr
         have hd0 : wr.cell? ⟨n1, 0, none⟩ = some (.int .i64 m) := (blk_cell D.out.bn 0).trans rfl
         have hd1 : wr.cell? ⟨n1, 1, none⟩ = some (.int .i64 s) := (blk_cell D.out.bn 1).trans rfl
         cases n with
         | zero =>
          obtain rfl : out = out2 := by have := HR.out; simpa [ordRows] using this
          have hz1 : decide ((i : Int) < c) = false := decide_eq_false (by have := HS.out; have := HN.out; omega)
          go_wp2_with (go_at_call 28; refine (spec_whCount.calls k m s c _ H3.out).mono ?_; rintro e w4 ⟨rfl, hb⟩; have D6 := Aside0.mk (D.out.below hb); clear hb D hd0 hd1; have hd0 : w4.cell? ⟨n1, 0, none⟩ = some (.int .i64 m) := (blk_cell D6.out.bn 0).trans rfl; have hd1 : w4.cell? ⟨n1, 1, none⟩ = some (.int .i64 s) := (blk_cell D6.out.bn 1).trans rfl; have hc0 := (blk_cell D6.out.bl 0).trans rfl; have hc1 := (blk_cell D6.out.bl 1).trans rfl; have hf0 := blk_frozen D6.out.bl 0; have hf1 := blk_frozen D6.out.bl 1)
          (try simp only [Exit.inBlock, Exit.then])
          refine bodyPost_ret (results_row_tmp rfl _ _ w.heap.size 25 #[.int .i64 m, .int .i64 s] (0, 0) _ rfl (blk_put (blk_put D6.out.bl 0 _ rfl) 1 _ rfl) Tryz.underlying25 rfl (by kernel_rfl)) rfl ?_
          exact ⟨_, rfl, R_setT (R_setT (D6.out.rr) D6.out.bl kS_neL 0 _) (blk_put D6.out.bl 0 _ rfl) kS_neL 1 _, below_set' (below_set' D6.out.bb (Nat.le_refl _)) (Nat.le_refl _)⟩
         | succ n =>
          have hz1 : decide ((i : Int) < c) = true := decide_eq_true (by have := HS.out; have := HN.out; omega)
          obtain ⟨x, hx, hr⟩ := Option.bind_eq_some_iff.mp (show ((spec_orForth.f k m s (i : Int)).bind fun t => ordRows (spec_orForth.f k m s) n (i + 1) (out ++ [t])) = some out2 from HR.out)
          have HX := Aside0.mk hx
          have HR2 := Aside0.mk hr
          clear hx hr HR
          go_wp2_with (first | (go_at_call 28; refine (spec_whCount.calls k m s c _ H3.out).mono ?_; rintro e w4 ⟨rfl, hb⟩; have D6 := Aside0.mk (D.out.below hb); clear hb D hd0 hd1; have hd0 : w4.cell? ⟨n1, 0, none⟩ = some (.int .i64 m) := (blk_cell D6.out.bn 0).trans rfl; have hd1 : w4.cell? ⟨n1, 1, none⟩ = some (.int .i64 s) := (blk_cell D6.out.bn 1).trans rfl) | (go_at_call 30; refine (spec_orForth.calls k m s (i : Int) x _ HX.out).mono ?_; rintro e w7 ⟨rfl, hb⟩; have D7 := Aside0.mk (D6.out.below hb); clear hb D6 hd0 hd1) | ((with_reducible refine gate_builtin (b := .append) (xs := #[.tmp 70, .tmp 74]) rfl ?_); at_builtin; refine Kd.R_append Kd.string (w0 := w) w.heap.size rfl (.tmp 70) (.tmp 74) 26 9 (.string ⟨#[]⟩) 16 rfl Tryz.underlying26 HIN.out rfl (by decide) (by omega) (.slice Ao out.length co) out x [.string x] (fun _ => True) (fun _ => False) rfl rfl ?aP (fun _ hk => hk.elim) ?aF ?aO ?aB ?aS ?aL ?_; (case aP => exact rfl); (case aB => exact D7.out.bb); (case aF => exact (fun _ _ => trivial)); (case aO => exact D7.out.rr); (case aS => exact below_size D7.out.bb); (case aL => have := HL.out; have := HS.out; have := HN.out; have := HC.out; omega); intro v9 w9 ho hb hg hat; have D9 := Aside0.mk (D7.out.app ho hb hg); clear ho hb hg hat D7))
          go_roundg n
          case measure => have := HG.out; omega
          case rel => exact ⟨n, i + 1, out ++ [x], by rw [show wrap64 ((i : Int) + 1) = ((i + 1 : Nat) : Int) from by unfold wrap64; have := HS.out; have := HN.out; have := HC.out; omega], ⟨by have := HS.out; omega⟩, ⟨Nat.le_refl _⟩, ⟨by have := HL.out; simp; omega⟩, HR2, D9⟩
       case neg =>
        rw [if_neg hq] at hh
        have hq2 : (q == 2) = false := by simp; omega
        clear hq
        by_cases hq : q = 3
        case neg =>
         rw [if_neg hq] at hh
         simp only [Option.some.injEq, Prod.mk.injEq] at hh
         obtain ⟨rfl, rfl, rfl⟩ := hh
         have hq3 : (q == 3) = false := by simp; omega
         clear hq
         have hd0 : w8.cell? ⟨n1, 0, none⟩ = some (.int .i64 m) := (blk_cell D5.out.bn 0).trans rfl
         have hd1 : w8.cell? ⟨n1, 1, none⟩ = some (.int .i64 s) := (blk_cell D5.out.bn 1).trans rfl
         have hc0 := (blk_cell D5.out.bl 0).trans rfl
         have hc1 := (blk_cell D5.out.bl 1).trans rfl
         have hf0 := blk_frozen D5.out.bl 0
         have hf1 := blk_frozen D5.out.bl 1
         go_wp2
         (try simp only [Exit.inBlock, Exit.then])
         refine bodyPost_ret (results_row_tmp rfl _ _ w.heap.size 25 #[.int .i64 m, .int .i64 s] (0, 0) _ rfl (blk_put (blk_put D5.out.bl 0 _ rfl) 1 _ rfl) Tryz.underlying25 rfl (by kernel_rfl)) rfl ?_
         exact ⟨_, rfl, R_setT (R_setT (D5.out.rr) D5.out.bl kS_neL 0 _) (blk_put D5.out.bl 0 _ rfl) kS_neL 1 _, below_set' (below_set' D5.out.bb (Nat.le_refl _)) (Nat.le_refl _)⟩
        case pos =>
         rw [if_pos hq] at hh
         have hq3 : (q == 3) = true := by simp [hq]
         clear hq
         obtain ⟨⟨xa, at4, sd4⟩, h7, hh⟩ := Option.bind_eq_some_iff.mp hh
         obtain ⟨⟨xb, at5, sd5⟩, h8, hh⟩ := Option.bind_eq_some_iff.mp hh
         simp only [Option.some.injEq, Prod.mk.injEq] at hh
         obtain ⟨rfl, rfl, rfl⟩ := hh
         (try dsimp only at h7 h8)
         have H7 := Aside0.mk h7
         have H8 := Aside0.mk h8
         have M1 := Aside0.mk trivial
         have D6 := Aside0.mk D5.out.drew
         clear h7 h8
         have hd0 : w8.cell? ⟨n1, 0, none⟩ = some (.int .i64 m) := (blk_cell D5.out.bn 0).trans rfl
         have hd1 : w8.cell? ⟨n1, 1, none⟩ = some (.int .i64 s) := (blk_cell D5.out.bn 1).trans rfl
         clear D5
         go_upto_region 26 with (fail)
         go_region_law (first | (refine Kd.R_append_rows_step Kd.string (w0 := w) w.heap.size (by rfl) (.tmp 78) (.tmp 85) 26 9 (.string ⟨#[]⟩) 16 rfl Tryz.underlying26 HIN.out rfl (by decide) (by omega) (.slice Ao out.length co) out [xa, xb] _ _ _ (fun _ => True) (fun _ => False) rfl rfl ?aO ?aR (fun _ _ h => h) (fun _ h => h.elim) (fun _ _ => trivial) ?aB ?aS ?aL ?_; (case aO => exact D9.out.rr); (case aR => exact (Kd.R_reads' (hw_R_lit Kd.string w10 9 w.heap.size w10.heap.size (xs := [xa, xb]) (inner := [.string xa, .string xb]) (ok := fun _ => True) (okp := fun _ => False) rfl (Reps.one rfl (Reps.one rfl (Reps.none _ _))) (fun _ h => h.elim) trivial D8.out.bb.size (by simp))).2.2); (case aB => exact D9.out.bb); (case aS => exact below_size D9.out.bb); (case aL => have := HLB.out; omega); intro v11 w11 ho hb hg hat; have D11 := Aside0.mk (D9.out.app ho hb hg); clear ho hb hg hat; have hd0 : w11.cell? ⟨n1, 0, none⟩ = some (.int .i64 m) := (blk_cell D11.out.bn 0).trans rfl; have hd1 : w11.cell? ⟨n1, 1, none⟩ = some (.int .i64 s) := (blk_cell D11.out.bn 1).trans rfl; have hc0 := (blk_cell D11.out.bl 0).trans rfl; have hc1 := (blk_cell D11.out.bl 1).trans rfl; have hf0 := blk_frozen D11.out.bl 0; have hf1 := blk_frozen D11.out.bl 1) | (go_simp; go_wp2_with (first | (go_at_call 32; have m1 := M1; clear M1; refine (spec_l1Cur_code1.calls k (w.heap.size + 1) l0 at3 sd3 m s xa at4 sd4 w _ D6.out.ci D6.out.bb H7.out).mono ?_; rintro e w9 ⟨rfl, hI, hB, hk⟩; have D7 := Aside0.mk (D6.out.cur HN2.out hI hB hk); clear hI hB hk D6; have M2 := Aside0.mk trivial; have he0 : w9.cell? ⟨n1, 0, none⟩ = some (.int .i64 m) := (blk_cell D7.out.bn 0).trans rfl; have he1 : w9.cell? ⟨n1, 1, none⟩ = some (.int .i64 s) := (blk_cell D7.out.bn 1).trans rfl) | (go_at_call 32; have m2 := M2; clear M2; refine (spec_l1Cur_code1.calls k (w.heap.size + 1) l0 at4 sd4 m s xb at5 sd5 w _ D7.out.ci D7.out.bb H8.out).mono ?_; rintro e w10 ⟨rfl, hI, hB, hk⟩; have D8 := Aside0.mk (D7.out.cur HN2.out hI hB hk); clear hI hB hk D7; have hg0 : w10.cell? ⟨n1, 0, none⟩ = some (.int .i64 m) := (blk_cell D8.out.bn 0).trans rfl; have hg1 : w10.cell? ⟨n1, 1, none⟩ = some (.int .i64 s) := (blk_cell D8.out.bn 1).trans rfl; have D9 := Aside0.mk (D8.out.alloc (.cells #[.string xa, .string xb] 9))))))
         all_goals
          go_wp2
          (try simp only [Exit.inBlock, Exit.then])
          refine bodyPost_ret (results_row_tmp rfl _ _ w.heap.size 25 #[.int .i64 m, .int .i64 s] (0, 0) _ rfl (blk_put (blk_put D11.out.bl 0 _ rfl) 1 _ rfl) Tryz.underlying25 rfl (by kernel_rfl)) rfl ?_
          exact ⟨_, rfl, R_setT (R_setT (D11.out.rr) D11.out.bl kS_neL 0 _) (blk_put D11.out.bl 0 _ rfl) kS_neL 1 _, below_set' (below_set' D11.out.bb (Nat.le_refl _)) (Nat.le_refl _)⟩
    | succ n =>
     have hz1 : decide ((i : Int) < c) = true := decide_eq_true (by have := HS.out; have := HN.out; omega)
     have hz2 : decide ((i : Int) < p) = true := decide_eq_true (by have := HS.out; have := HN.out; omega)
     obtain ⟨x, hx, hr⟩ := Option.bind_eq_some_iff.mp (show ((spec_orForth.f k m s (i : Int)).bind fun t => ordRows (spec_orForth.f k m s) n (i + 1) (out ++ [t])) = some out1 from HR.out)
     have HX := Aside0.mk hx
     have HR2 := Aside0.mk hr
     clear hx hr HR
     go_wp2_with (first | (go_at_call 28; refine (spec_whCount.calls k m s c _ H3.out).mono ?_; rintro e w4 ⟨rfl, hb⟩; have D6 := Aside0.mk (D.out.below hb); clear hb D hd0 hd1; have hd0 : w4.cell? ⟨n1, 0, none⟩ = some (.int .i64 m) := (blk_cell D6.out.bn 0).trans rfl; have hd1 : w4.cell? ⟨n1, 1, none⟩ = some (.int .i64 s) := (blk_cell D6.out.bn 1).trans rfl) | (go_at_call 30; refine (spec_orForth.calls k m s (i : Int) x _ HX.out).mono ?_; rintro e w7 ⟨rfl, hb⟩; have D7 := Aside0.mk (D6.out.below hb); clear hb D6 hd0 hd1) | ((with_reducible refine gate_builtin (b := .append) (xs := #[.tmp 39, .tmp 43]) rfl ?_); at_builtin; refine Kd.R_append Kd.string (w0 := w) w.heap.size rfl (.tmp 39) (.tmp 43) 26 9 (.string ⟨#[]⟩) 16 rfl Tryz.underlying26 HIN.out rfl (by decide) (by omega) (.slice Ao out.length co) out x [.string x] (fun _ => True) (fun _ => False) rfl rfl ?aP (fun _ hk => hk.elim) ?aF ?aO ?aB ?aS ?aL ?_; (case aP => exact rfl); (case aB => exact D7.out.bb); (case aF => exact (fun _ _ => trivial)); (case aO => exact D7.out.rr); (case aS => exact below_size D7.out.bb); (case aL => have := HL.out; have := HS.out; have := HN.out; have := HC.out; omega); intro v9 w9 ho hb hg hat; have D9 := Aside0.mk (D7.out.app ho hb hg); clear ho hb hg hat D7))
     go_roundg n
     case measure => have := HG.out; omega
     case rel => exact ⟨n, i + 1, out ++ [x], by rw [show wrap64 ((i : Int) + 1) = ((i + 1 : Nat) : Int) from by unfold wrap64; have := HS.out; have := HN.out; have := HC.out; omega], ⟨by have := HS.out; omega⟩, ⟨Nat.le_refl _⟩, ⟨by have := HL.out; simp; omega⟩, HR2, D9⟩

/-! ### impl_within: function 64 -/
def impl_within.f (a0 : Int) (a1 : Int) (a2 : Int) : Option (Bool) := if a1 ≤ a0 then (some (decide (a0 ≤ a2))) else (some false)
theorem impl_within.calls (a0 : Int) (a1 : Int) (a2 : Int) (r : Bool) (w : World) (h : impl_within.f a0 a1 a2 = some r) :
  Calls Tryz.prog 64 #[.int .i64 a0, .int .i64 a1, .int .i64 a2] w fun e w' => e = .returned (.bool r) ∧ Drawn0 w w' := by
 have H := h
 unfold impl_within.f at H
 clear h
 by_cases c4 : a1 ≤ a0
 ·rw [if_pos c4] at H
  have c4b0 : decide (a1 ≤ a0) = true := decide_eq_true c4
  clear c4
  obtain rfl := Option.some.inj H
  go_enter Tryz.func64, Tryz.ntmps64
  go_wp2
  go_ret
  exact ⟨fR, by repeat (first | exact Drawn0.refl _ | apply Drawn0.step)⟩
 ·rw [if_neg c4] at H
  have c4b0 : decide (a1 ≤ a0) = false := decide_eq_false c4
  clear c4
  obtain rfl := Option.some.inj H
  go_enter Tryz.func64, Tryz.ntmps64
  go_wp2
  go_ret
  exact ⟨fR, by repeat (first | exact Drawn0.refl _ | apply Drawn0.step)⟩

/-! ### impl_IsLock: function 33 -/
def impl_IsLock.f (a0_0 : Int) (a0_1 : Int) : Option (Bool) := (impl_within.f a0_0 1 6).bind fun t209 => (if t209 = true then ((impl_within.f a0_1 2 10).bind fun t210 => (some t210)) else (some false))
theorem impl_IsLock.calls (a0_0 : Int) (a0_1 : Int) (r : Bool) (w : World) (h : impl_IsLock.f a0_0 a0_1 = some r) :
  Calls Tryz.prog 33 #[.agg #[.int .i64 a0_0, .int .i64 a0_1]] w fun e w' => e = .returned (.bool r) ∧ Below w.heap.size w w' := by
 have hu25 := Tryz.underlying25
 have HB := Aside0.mk (Below.refl w.heap.size w)
 have H := h
 unfold impl_IsLock.f at H
 clear h
 replace H := Option.bind_eq_some_iff.mp H
 obtain ⟨t209, A20, H⟩ := H
 (try dsimp only at H)
 have A2 := Aside0.mk A20
 clear A20
 by_cases c3 : t209 = true
 ·subst c3
  replace H := zt H
  replace H := Option.bind_eq_some_iff.mp H
  obtain ⟨t210, A40, H⟩ := H
  (try dsimp only at H)
  have A4 := Aside0.mk A40
  clear A40
  obtain rfl := Option.some.inj H
  go_enter Tryz.func33, Tryz.ntmps33
  go_wp2_with (first | ((with_reducible refine gate_dst (N := 1) rfl ?_); refine box_event ?hg (N := 1) ?hd (cs := #[.int .i64 a0_0, .int .i64 a0_1]) (t := 25) ?hr ?_; (case hd => rfl); (case hg => rfl); (case hr => first | (go_simp; done) | (go_simp; rfl)); intro gb208 hg w5 hbox hb; have BK208 := Aside0.mk (hbox); have GW208 : Aside0 (w.heap.size ≤ gb208) := gW hg; have GE208 := GW208; replace HB := Aside0.mk (below_step bB hb); clear hb hbox hg; have hcz6_0 := cZ BK208 0 (.int .i64 a0_0); have hcz6_1 := cZ BK208 1 (.int .i64 a0_1); have hfz6_0 := blk_frozen BK208.out 0; have hfz6_1 := blk_frozen BK208.out 1) | ((with_reducible refine gate_callee (f := 64) rfl ?_); refine goesL_ (some 5) rfl rfl Tryz.func64 (by kernel_rfl) rfl #[.int .i64 a0_0, .int .i64 1, .int .i64 6] rfl lM ?_; (with_reducible refine (impl_within.calls a0_0 1 6 true _ A2.out).mono ?_); rintro e w' ⟨rfl, ⟨nd, rfl⟩⟩; refine ⟨_, rfl, ?_⟩) | (go_at_call 64; (with_reducible refine (impl_within.calls a0_1 2 10 t210 _ A4.out).mono ?_); rintro e w' ⟨rfl, ⟨nd, rfl⟩⟩))
  go_ret
  exact ⟨rE, bG⟩
 ·replace c3 := Bool.eq_false_iff.mpr c3
  subst c3
  replace H := zf H
  obtain rfl := Option.some.inj H
  go_enter Tryz.func33, Tryz.ntmps33
  go_wp2_with (first | ((with_reducible refine gate_dst (N := 1) rfl ?_); refine box_event ?hg (N := 1) ?hd (cs := #[.int .i64 a0_0, .int .i64 a0_1]) (t := 25) ?hr ?_; (case hd => rfl); (case hg => rfl); (case hr => first | (go_simp; done) | (go_simp; rfl)); intro gb208 hg w7 hbox hb; have BK208 := Aside0.mk (hbox); have GW208 : Aside0 (w.heap.size ≤ gb208) := gW hg; have GE208 := GW208; replace HB := Aside0.mk (below_step bB hb); clear hb hbox hg; have hcz8_0 := cZ BK208 0 (.int .i64 a0_0); have hcz8_1 := cZ BK208 1 (.int .i64 a0_1); have hfz8_0 := blk_frozen BK208.out 0; have hfz8_1 := blk_frozen BK208.out 1) | ((with_reducible refine gate_callee (f := 64) rfl ?_); refine goesL_ (some 5) rfl rfl Tryz.func64 (by kernel_rfl) rfl #[.int .i64 a0_0, .int .i64 1, .int .i64 6] rfl lM ?_; (with_reducible refine (impl_within.calls a0_0 1 6 false _ A2.out).mono ?_); rintro e w' ⟨rfl, ⟨nd, rfl⟩⟩; refine ⟨_, rfl, ?_⟩))
  go_ret
  exact ⟨rE, bG⟩

/-! ### impl_Lock_isText: function 82 -/
def impl_Lock_isText.l0 : Nat → ByteArray → Int → Int → Int → Int → Option (Bool)
 | 0, _, _, _, _, _ => none
 | k + 1, x1, x7, x8, x212000, x212001 => if x8 < x7 then (if 0 ≤ x8 then (if x8 < (x1.size : Int) then ((impl_within.f (wrap64 (bt x1 x8)) 48 (wrap64 ((wrap64 (48 + x212001)) - 1))).bind fun t212 => (if t212 = true then (impl_Lock_isText.l0 k x1 x7 (wrap64 (x8 + 1)) x212000 x212001) else (some false))) else (none)) else (none)) else (some true)
def impl_Lock_isText.f (k : Nat) (a0_0 : Int) (a0_1 : Int) (a1 : ByteArray) : Option (Bool) := impl_Lock_isText.l0 k a1 (a1.size : Int) 0 a0_0 a0_1
theorem impl_Lock_isText.mono_l : ∀ k, (∀ y0 y1 y2 y3 y4, LeO (impl_Lock_isText.l0 k y0 y1 y2 y3 y4) (impl_Lock_isText.l0 (k + 1) y0 y1 y2 y3 y4))
 | 0 => fun _ _ _ _ _ r h => by simp [impl_Lock_isText.l0] at h
 | k + 1 => by
  have ih0 := impl_Lock_isText.mono_l k
  ·intro y0 y1 y2 y3 y4
   unfold impl_Lock_isText.l0
   repeat' first
   | (with_reducible first | exact ih0 _ _ _ _ _ | exact LeO.refl _ | exact LeO.none _ | refine LeO.ite ?_ ?_ | refine LeO.bind ?_ (fun _ => ?_))
   | exact ih0 _ _ _ _ _
   | exact LeO.none _
   | refine LeO.ite ?_ ?_
   | refine LeO.bind ?_ (fun _ => ?_)
theorem impl_Lock_isText.mono : ∀ a0 a1 a2 k, LeO (impl_Lock_isText.f k a0 a1 a2) (impl_Lock_isText.f (k + 1) a0 a1 a2) := by
 intro a0 a1 a2 k
 have ih0 := impl_Lock_isText.mono_l k
 unfold impl_Lock_isText.f
 repeat' first
   | (with_reducible first | exact ih0 _ _ _ _ _ | exact LeO.refl _ | exact LeO.none _ | refine LeO.ite ?_ ?_ | refine LeO.bind ?_ (fun _ => ?_))
   | exact ih0 _ _ _ _ _
   | exact LeO.none _
   | refine LeO.ite ?_ ?_
   | refine LeO.bind ?_ (fun _ => ?_)
theorem impl_Lock_isText.calls (k : Nat) (a0_0 : Int) (a0_1 : Int) (a1 : ByteArray) (r : Bool) (w : World) (h : impl_Lock_isText.f k a0_0 a0_1 a1 = some r) :
  Calls Tryz.prog 82 #[.agg #[.int .i64 a0_0, .int .i64 a0_1], .string a1] w fun e w' => e = .returned (.bool r) ∧ Below w.heap.size w w' := by
 have hu25 := Tryz.underlying25
 have HB := Aside0.mk (Below.refl w.heap.size w)
 have H := h
 unfold impl_Lock_isText.f at H
 clear h
 have H' := Aside0.mk H
 clear H
 go_enter Tryz.func82, Tryz.ntmps82
 go_wp2_with (first | ((with_reducible refine gate_dst (N := 2) rfl ?_); refine box_event ?hg (N := 2) ?hd (cs := #[.int .i64 a0_0, .int .i64 a0_1]) (t := 25) ?hr ?_; (case hd => rfl); (case hg => rfl); (case hr => first | (go_simp; done) | (go_simp; rfl)); intro gb211 hg w3 hbox hb; have BK211 := Aside0.mk (hbox); have GW211 : Aside0 (w.heap.size ≤ gb211) := gW hg; have GE211 := GW211; replace HB := Aside0.mk (below_step bB hb); clear hb hbox hg))
 repeat (go_quiet (first | ((with_reducible refine gate_dst (N := 2) rfl ?_); refine box_event ?hg (N := 2) ?hd (cs := #[.int .i64 a0_0, .int .i64 a0_1]) (t := 25) ?hr ?_; (case hd => rfl); (case hg => rfl); (case hr => first | (go_simp; done) | (go_simp; rfl)); intro gb211 hg w3 hbox hb; have BK211 := Aside0.mk (hbox); have GW211 : Aside0 (w.heap.size ≤ gb211) := gW hg; have GE211 := GW211; replace HB := Aside0.mk (below_step bB hb); clear hb hbox hg)); try go_wp2_with (first | ((with_reducible refine gate_dst (N := 2) rfl ?_); refine box_event ?hg (N := 2) ?hd (cs := #[.int .i64 a0_0, .int .i64 a0_1]) (t := 25) ?hr ?_; (case hd => rfl); (case hg => rfl); (case hr => first | (go_simp; done) | (go_simp; rfl)); intro gb211 hg w3 hbox hb; have BK211 := Aside0.mk (hbox); have GW211 : Aside0 (w.heap.size ≤ gb211) := gW hg; have GE211 := GW211; replace HB := Aside0.mk (below_step bB hb); clear hb hbox hg)))
 go_loopg [8] k (fun kq v8 w' => ∃ (x8_1 : Int), v8 = .int .i64 x8_1 ∧ Aside0 (impl_Lock_isText.l0 kq a1 (a1.size : Int) x8_1 a0_0 a0_1 = some r) ∧ Aside0 (kq ≤ k) ∧ Aside0 (w'.heap[gb211]? = some (.cells #[.int .i64 a0_0, .int .i64 a0_1] 25 (0, 0))) ∧ Aside0 (Below w.heap.size w w'))
 case atStart => exact ⟨(0), fR, H', ⟨Nat.le_refl _⟩, ⟨bK⟩, ⟨bG⟩⟩
 case round =>
  clear H'
  try clear p2
  obtain ⟨x8_1, rfl, HA, HK1, BK211, HB⟩ := hrel
  cases gk with
  | zero => exact absurd HA.out (by simp [impl_Lock_isText.l0])
  | succ k1 =>
   have H := HA.out
   clear HA
   simp only [impl_Lock_isText.l0] at H
   by_cases c4 : x8_1 < (a1.size : Int)
   ·rw [if_pos c4] at H
    have c4b0 : decide (x8_1 < (a1.size : Int)) = true := decide_eq_true c4
    clear c4
    replace H := nz H; obtain ⟨c5, H⟩ := H
    have c5b0 : decide (0 ≤ x8_1) = true := decide_eq_true c5
    clear c5
    replace H := nz H; obtain ⟨c6, H⟩ := H
    have c6b0 : decide (x8_1 < (a1.size : Int)) = true := decide_eq_true c6
    clear c6
    replace H := Option.bind_eq_some_iff.mp H
    obtain ⟨t212, A80, H⟩ := H
    (try dsimp only at H)
    have A8 := Aside0.mk A80
    clear A80
    by_cases c9 : t212 = true
    ·subst c9
     replace H := zt H
     have H' := Aside0.mk H
     clear H
     have p7 : 0 ≤ (x8_1 : Int) := oD
     have q7 : x8_1 < (a1.size : Int) := oD
     have hx7 := bt_at a1 x8_1
     replace p7 := eq_true p7
     replace q7 := eq_true q7
     have hcz10_0 := cZ BK211 0 (.int .i64 a0_0)
     have hcz10_1 := cZ BK211 1 (.int .i64 a0_1)
     have hfz10_0 := blk_frozen BK211.out 0
     have hfz10_1 := blk_frozen BK211.out 1
     go_wp2_with (first | (go_at_call 64; (with_reducible refine (impl_within.calls (wrap64 (bt a1 x8_1)) 48 (wrap64 ((wrap64 (48 + a0_1)) - 1)) true _ A8.out).mono ?_); rintro e w' ⟨rfl, ⟨nd, rfl⟩⟩; (try first | exact ⟨rfl, _, World.drewN_drewN _ _ _⟩ | exact ⟨rfl, _, Eq.trans (World.drewN_drewN _ _ _) (congrArg (World.drewN _) (Nat.add_assoc _ _ _))⟩)))
     repeat (go_quiet (first | (go_at_call 64; (with_reducible refine (impl_within.calls (wrap64 (bt a1 x8_1)) 48 (wrap64 ((wrap64 (48 + a0_1)) - 1)) true _ A8.out).mono ?_); rintro e w' ⟨rfl, ⟨nd, rfl⟩⟩; (try first | exact ⟨rfl, _, World.drewN_drewN _ _ _⟩ | exact ⟨rfl, _, Eq.trans (World.drewN_drewN _ _ _) (congrArg (World.drewN _) (Nat.add_assoc _ _ _))⟩))); try go_wp2_with (first | (go_at_call 64; (with_reducible refine (impl_within.calls (wrap64 (bt a1 x8_1)) 48 (wrap64 ((wrap64 (48 + a0_1)) - 1)) true _ A8.out).mono ?_); rintro e w' ⟨rfl, ⟨nd, rfl⟩⟩; (try first | exact ⟨rfl, _, World.drewN_drewN _ _ _⟩ | exact ⟨rfl, _, Eq.trans (World.drewN_drewN _ _ _) (congrArg (World.drewN _) (Nat.add_assoc _ _ _))⟩))))
     go_roundg k1
     case measure => have := HK1.out; omega
     case rel => exact ⟨(wrap64 (x8_1 + 1)), fR, H', ⟨by have := HK1.out; omega⟩, ⟨bK⟩, ⟨bG⟩⟩
    ·replace c9 := Bool.eq_false_iff.mpr c9
     subst c9
     replace H := zf H
     obtain rfl := Option.some.inj H
     have p7 : 0 ≤ (x8_1 : Int) := oD
     have q7 : x8_1 < (a1.size : Int) := oD
     have hx7 := bt_at a1 x8_1
     replace p7 := eq_true p7
     replace q7 := eq_true q7
     have hcz11_0 := cZ BK211 0 (.int .i64 a0_0)
     have hcz11_1 := cZ BK211 1 (.int .i64 a0_1)
     have hfz11_0 := blk_frozen BK211.out 0
     have hfz11_1 := blk_frozen BK211.out 1
     go_wp2_with (first | (go_at_call 64; (with_reducible refine (impl_within.calls (wrap64 (bt a1 x8_1)) 48 (wrap64 ((wrap64 (48 + a0_1)) - 1)) false _ A8.out).mono ?_); rintro e w' ⟨rfl, ⟨nd, rfl⟩⟩; (try first | exact ⟨rfl, _, World.drewN_drewN _ _ _⟩ | exact ⟨rfl, _, Eq.trans (World.drewN_drewN _ _ _) (congrArg (World.drewN _) (Nat.add_assoc _ _ _))⟩)))
     repeat (go_quiet (first | (go_at_call 64; (with_reducible refine (impl_within.calls (wrap64 (bt a1 x8_1)) 48 (wrap64 ((wrap64 (48 + a0_1)) - 1)) false _ A8.out).mono ?_); rintro e w' ⟨rfl, ⟨nd, rfl⟩⟩; (try first | exact ⟨rfl, _, World.drewN_drewN _ _ _⟩ | exact ⟨rfl, _, Eq.trans (World.drewN_drewN _ _ _) (congrArg (World.drewN _) (Nat.add_assoc _ _ _))⟩))); try go_wp2_with (first | (go_at_call 64; (with_reducible refine (impl_within.calls (wrap64 (bt a1 x8_1)) 48 (wrap64 ((wrap64 (48 + a0_1)) - 1)) false _ A8.out).mono ?_); rintro e w' ⟨rfl, ⟨nd, rfl⟩⟩; (try first | exact ⟨rfl, _, World.drewN_drewN _ _ _⟩ | exact ⟨rfl, _, Eq.trans (World.drewN_drewN _ _ _) (congrArg (World.drewN _) (Nat.add_assoc _ _ _))⟩))))
     go_ret
     exact ⟨rE, bG⟩
   ·rw [if_neg c4] at H
    have c4b0 : decide (x8_1 < (a1.size : Int)) = false := decide_eq_false c4
    clear c4
    obtain rfl := Option.some.inj H
    go_wp2
    repeat (go_quiet (fail); try go_wp2)
    go_ret
    exact ⟨rE, bG⟩

/-! ### impl_Lock_isCode: function 65 -/
def impl_Lock_isCode.f (k : Nat) (a0_0 : Int) (a0_1 : Int) (a1 : ByteArray) : Option (Bool) := if (a1.size : Int) = a0_0 then ((impl_Lock_isText.f k a0_0 a0_1 a1).bind fun t214 => (some t214)) else (some false)
theorem impl_Lock_isCode.mono : ∀ a0 a1 a2 k, LeO (impl_Lock_isCode.f k a0 a1 a2) (impl_Lock_isCode.f (k + 1) a0 a1 a2) := by
 intro a0 a1 a2 k
 unfold impl_Lock_isCode.f
 repeat' first
   | (with_reducible first | exact impl_Lock_isText.mono _ _ _ _ | exact LeO.refl _ | exact LeO.none _ | refine LeO.ite ?_ ?_ | refine LeO.bind ?_ (fun _ => ?_))
   | exact impl_Lock_isText.mono _ _ _ _
   | exact LeO.none _
   | refine LeO.ite ?_ ?_
   | refine LeO.bind ?_ (fun _ => ?_)
theorem impl_Lock_isCode.calls (k : Nat) (a0_0 : Int) (a0_1 : Int) (a1 : ByteArray) (r : Bool) (w : World) (h : impl_Lock_isCode.f k a0_0 a0_1 a1 = some r) :
  Calls Tryz.prog 65 #[.agg #[.int .i64 a0_0, .int .i64 a0_1], .string a1] w fun e w' => e = .returned (.bool r) ∧ Below w.heap.size w w' := by
 have hu25 := Tryz.underlying25
 have HB := Aside0.mk (Below.refl w.heap.size w)
 have H := h
 unfold impl_Lock_isCode.f at H
 clear h
 by_cases c3 : (a1.size : Int) = a0_0
 ·rw [if_pos c3] at H
  have c3b0 : ((a1.size : Int) == a0_0) = true := beq_iff_eq.mpr c3
  have c3b1 : ((a1.size : Int) != a0_0) = false := bne_eq_false_iff_eq.mpr c3
  clear c3
  replace H := Option.bind_eq_some_iff.mp H
  obtain ⟨t214, A40, H⟩ := H
  (try dsimp only at H)
  have A4 := Aside0.mk A40
  clear A40
  obtain rfl := Option.some.inj H
  go_enter Tryz.func65, Tryz.ntmps65
  go_wp2_with (first | ((with_reducible refine gate_dst (N := 2) rfl ?_); refine box_event ?hg (N := 2) ?hd (cs := #[.int .i64 a0_0, .int .i64 a0_1]) (t := 25) ?hr ?_; (case hd => rfl); (case hg => rfl); (case hr => first | (go_simp; done) | (go_simp; rfl)); intro gb213 hg w5 hbox hb; have BK213 := Aside0.mk (hbox); have GW213 : Aside0 (w.heap.size ≤ gb213) := gW hg; have GE213 := GW213; replace HB := Aside0.mk (below_step bB hb); clear hb hbox hg; have hcz6_0 := cZ BK213 0 (.int .i64 a0_0); have hcz6_1 := cZ BK213 1 (.int .i64 a0_1); have hfz6_0 := blk_frozen BK213.out 0; have hfz6_1 := blk_frozen BK213.out 1) | (go_at_call 82; (with_reducible refine (impl_Lock_isText.calls k a0_0 a0_1 a1 t214 _ A4.out).mono ?_); rintro e w7 ⟨rfl, hb⟩; replace BK213 := bW BK213 hb; replace HB := Aside0.mk (below_step bG hb); (try clear hb)))
  go_ret
  exact ⟨rE, bG⟩
 ·rw [if_neg c3] at H
  have c3b0 : ((a1.size : Int) == a0_0) = false := beq_eq_false_iff_ne.mpr c3
  have c3b1 : ((a1.size : Int) != a0_0) = true := bne_iff_ne.mpr c3
  obtain rfl := Option.some.inj H
  go_enter Tryz.func65, Tryz.ntmps65
  go_wp2_with (first | ((with_reducible refine gate_dst (N := 2) rfl ?_); refine box_event ?hg (N := 2) ?hd (cs := #[.int .i64 a0_0, .int .i64 a0_1]) (t := 25) ?hr ?_; (case hd => rfl); (case hg => rfl); (case hr => first | (go_simp; done) | (go_simp; rfl)); intro gb213 hg w8 hbox hb; have BK213 := Aside0.mk (hbox); have GW213 : Aside0 (w.heap.size ≤ gb213) := gW hg; have GE213 := GW213; replace HB := Aside0.mk (below_step bB hb); clear hb hbox hg; have hcz9_0 := cZ BK213 0 (.int .i64 a0_0); have hcz9_1 := cZ BK213 1 (.int .i64 a0_1); have hfz9_0 := blk_frozen BK213.out 0; have hfz9_1 := blk_frozen BK213.out 1))
  go_ret
  exact ⟨rE, bG⟩

/-! ### impl_digits: function 71 -/
def impl_digits.l0 : Nat → ByteArray → List Int → Int → Int → Option (List Int)
 | 0, _, _, _, _ => none
 | k + 1, x0, x3, x7, x8 => if x8 < x7 then (if 0 ≤ x8 then (if x8 < (x0.size : Int) then (if x3.length < 17592186044416 then (impl_digits.l0 k x0 (x3 ++ [((bt x0 x8) - 48) % 256]) x7 (wrap64 (x8 + 1))) else (none)) else (none)) else (none)) else (some x3)
def impl_digits.f (k : Nat) (a0 : ByteArray) : Option (List Int) := impl_digits.l0 k a0 (([] : List Int)) (a0.size : Int) 0
theorem impl_digits.mono_l : ∀ k, (∀ y0 y1 y2 y3, LeO (impl_digits.l0 k y0 y1 y2 y3) (impl_digits.l0 (k + 1) y0 y1 y2 y3))
 | 0 => fun _ _ _ _ r h => by simp [impl_digits.l0] at h
 | k + 1 => by
  have ih0 := impl_digits.mono_l k
  ·intro y0 y1 y2 y3
   unfold impl_digits.l0
   repeat' first
   | (with_reducible first | exact ih0 _ _ _ _ | exact LeO.refl _ | exact LeO.none _ | refine LeO.ite ?_ ?_ | refine LeO.bind ?_ (fun _ => ?_))
   | exact ih0 _ _ _ _
   | exact LeO.none _
   | refine LeO.ite ?_ ?_
   | refine LeO.bind ?_ (fun _ => ?_)
theorem impl_digits.mono : ∀ a0 k, LeO (impl_digits.f k a0) (impl_digits.f (k + 1) a0) := by
 intro a0 k
 have ih0 := impl_digits.mono_l k
 unfold impl_digits.f
 repeat' first
   | (with_reducible first | exact ih0 _ _ _ _ | exact LeO.refl _ | exact LeO.none _ | refine LeO.ite ?_ ?_ | refine LeO.bind ?_ (fun _ => ?_))
   | exact ih0 _ _ _ _
   | exact LeO.none _
   | refine LeO.ite ?_ ?_
   | refine LeO.bind ?_ (fun _ => ?_)
theorem impl_digits.calls (k : Nat) (a0 : ByteArray) (r : List Int) (w : World) (h : impl_digits.f k a0 = some r) :
  Calls Tryz.prog 71 #[.string a0] w fun e w' => ∃ v0_ : Value, e = .returned (v0_) ∧ Kd.R (Kd.int .i64) 3 w' w.heap.size (fun _ => True) v0_ r ∧ Below w.heap.size w w' := by
 have HB := Aside0.mk (Below.refl w.heap.size w)
 have H := h
 unfold impl_digits.f at H
 clear h
 obtain ⟨y215, hy215⟩ : ∃ y_ : List Int, y_ = (([] : List Int)) := ⟨_, rfl⟩
 replace H : (impl_digits.l0 k a0 y215 (a0.size : Int) 0) = some r := hZ hy215 H
 have Ny215 := Aside0.mk hy215
 clear hy215
 have H' := Aside0.mk H
 clear H
 go_enter Tryz.func71, Tryz.ntmps71
 go_wp2_with (first | ((with_reducible refine gate_dst (N := 5) rfl ?_); refine Kd.R_lit (Kd.int .i64) _ 3 ?hg (N := 5) ?hd (xs := ([] : List Int)) (inner := []) (ok := fun _ => True) (okp := fun _ => True) ?hr ?hp (fun _ hk => hk) trivial (Below.refl _ _) (Nat.le_refl _) (by simp) ?_; (case hd => rfl); (case hg => rfl); (case hr => first | (go_simp; done) | (go_simp; rfl)); (case hp => exact (Reps.none _ _)); intro v216 w2 ho3 hb hg_ hnew_; clear hg_ hnew_; (first | rw [← Ny215.out] at ho3 | (simp only [Int.reduceToNat] at ho3; rw [← Ny215.out] at ho3)); have HO217 := Aside0.mk (Kd.R_lower ho3 (below_size bB)); replace HB := Aside0.mk (below_step bB hb); clear hb ho3))
 go_loopg [3, 8] k (fun kq v3 v8 w' => ∃ (x3_1 : List Int) (x8_1 : Int), v8 = .int .i64 x8_1 ∧ Aside0 (impl_digits.l0 kq a0 x3_1 (a0.size : Int) x8_1 = some r) ∧ Aside0 (kq ≤ k) ∧ Aside0 (Kd.R (Kd.int .i64) 3 w' w.heap.size (fun _ => True) v3 x3_1) ∧ Aside0 (Below w.heap.size w w'))
 case atStart => exact ⟨(y215), (0), fR, H', ⟨Nat.le_refl _⟩, ⟨kR HO217⟩, ⟨bB⟩⟩
 case round =>
  clear H'
  try clear p2
  obtain ⟨x3_1, x8_1, rfl, HA, HK1, HO_3, HB⟩ := hrel
  cases gk with
  | zero => exact absurd HA.out (by simp [impl_digits.l0])
  | succ k1 =>
   have H := HA.out
   clear HA
   simp only [impl_digits.l0] at H
   by_cases c4 : x8_1 < (a0.size : Int)
   ·rw [if_pos c4] at H
    have c4b0 : decide (x8_1 < (a0.size : Int)) = true := decide_eq_true c4
    clear c4
    replace H := nz H; obtain ⟨c5, H⟩ := H
    have c5b0 : decide (0 ≤ x8_1) = true := decide_eq_true c5
    clear c5
    replace H := nz H; obtain ⟨c6, H⟩ := H
    have c6b0 : decide (x8_1 < (a0.size : Int)) = true := decide_eq_true c6
    clear c6
    replace H := nz H; obtain ⟨c8, H⟩ := H
    have LMc8 := Aside0.mk c8
    clear c8
    obtain ⟨y218, hy218⟩ : ∃ y_ : List Int, y_ = (x3_1 ++ [((bt a0 x8_1) - 48) % 256]) := ⟨_, rfl⟩
    replace H : (impl_digits.l0 k1 a0 y218 (a0.size : Int) (wrap64 (x8_1 + 1))) = some r := hZ hy218 H
    have Ny218 := Aside0.mk hy218
    clear hy218
    have H' := Aside0.mk H
    clear H
    have p7 : 0 ≤ (x8_1 : Int) := oD
    have q7 : x8_1 < (a0.size : Int) := oD
    have hx7 := bt_at a0 x8_1
    replace p7 := eq_true p7
    replace q7 := eq_true q7
    go_wp2_with (first | ((with_reducible refine gate_builtin (b := .append) (xs := #[.tmp 11, .tmp 17]) rfl ?_); at_builtin; refine Kd.R_append (Kd.int .i64) (w0 := w) w.heap.size rfl (.tmp 11) (.tmp 17) 74 3 (.int .i64 0) 8 rfl Tryz.underlying74 info3 rfl (by decide) (by omega) u3 x3_1 (((bt a0 x8_1) - 48) % 256) [.int .i64 (((bt a0 x8_1) - 48) % 256)] (fun _ => True) (fun _ => False) rfl rfl ?aP (fun _ hk => hk.elim) ?aF ?aO ?aB ?aS ?aL ?_; (case aP => exact rfl); (case aB => exact bB); (case aF => exact (fun _ _ => trivial)); (case aO => exact (kR HO_3)); (case aS => exact (below_size bB)); (case aL => have := LMc8.out; omega); intro v219 w9 ho hb hg hat; rw [← Ny218.out] at ho; have n0_ := Aside0.mk (hb); have n1_ := Aside0.mk (ho); clear HB; clear HO_3; have HB := n0_; have HO220 := n1_; clear n0_ n1_; clear ho hb hg hat))
    go_roundg k1
    case measure => have := HK1.out; omega
    case rel => exact ⟨(y218), (wrap64 (x8_1 + 1)), fR, H', ⟨by have := HK1.out; omega⟩, ⟨kR HO220⟩, ⟨bB⟩⟩
   ·rw [if_neg c4] at H
    have c4b0 : decide (x8_1 < (a0.size : Int)) = false := decide_eq_false c4
    clear c4
    obtain rfl := Option.some.inj H
    go_wp2
    go_ret
    exact ⟨_, rE, kR HO_3, bB⟩

/-! ### impl_around: function 72 -/
def impl_around.f (a0 : Int) (a1 : Int) : Option (Int) := if a1 = 0 then (none) else (some (Int.tmod (wrap64 ((Int.tmod a0 a1) + a1)) a1))
theorem impl_around.calls (a0 : Int) (a1 : Int) (r : Int) (w : World) (h : impl_around.f a0 a1 = some r) :
  Calls Tryz.prog 72 #[.int .i64 a0, .int .i64 a1] w fun e w' => e = .returned (.int .i64 r) ∧ Drawn0 w w' := by
 have H := h
 unfold impl_around.f at H
 clear h
 replace H := nz' H; obtain ⟨c3, H⟩ := H
 have c3b0 : (a1 == 0) = false := beq_eq_false_iff_ne.mpr c3
 have c3b1 : (a1 != 0) = true := bne_iff_ne.mpr c3
 obtain rfl := Option.some.inj H
 go_enter Tryz.func72, Tryz.ntmps72
 go_wp2
 go_ret
 exact ⟨fR, by repeat (first | exact Drawn0.refl _ | apply Drawn0.step)⟩

/-! ### impl_text: function 73 -/
def impl_text.l0 : Nat → List Int → List Int → Int → Int → Option (ByteArray)
 | 0, _, _, _, _ => none
 | k + 1, x3, x7, x8, x9 => if x9 < x8 then (if 0 ≤ x9 then (if x9 < (x7.length : Int) then (if x3.length < 140737488355328 then (impl_text.l0 k (x3 ++ [(wrap64 (48 + (rd x7 x9))) % 256]) x7 x8 (wrap64 (x9 + 1))) else (none)) else (none)) else (none)) else (some (strOfNums x3))
def impl_text.f (k : Nat) (l0 : List Int) : Option (ByteArray) := impl_text.l0 k (([] : List Int)) l0 (l0.length : Int) 0
theorem impl_text.mono_l : ∀ k, (∀ y0 y1 y2 y3, LeO (impl_text.l0 k y0 y1 y2 y3) (impl_text.l0 (k + 1) y0 y1 y2 y3))
 | 0 => fun _ _ _ _ r h => by simp [impl_text.l0] at h
 | k + 1 => by
  have ih0 := impl_text.mono_l k
  ·intro y0 y1 y2 y3
   unfold impl_text.l0
   repeat' first
   | (with_reducible first | exact ih0 _ _ _ _ | exact LeO.refl _ | exact LeO.none _ | refine LeO.ite ?_ ?_ | refine LeO.bind ?_ (fun _ => ?_))
   | exact ih0 _ _ _ _
   | exact LeO.none _
   | refine LeO.ite ?_ ?_
   | refine LeO.bind ?_ (fun _ => ?_)
theorem impl_text.mono : ∀ a0 k, LeO (impl_text.f k a0) (impl_text.f (k + 1) a0) := by
 intro a0 k
 have ih0 := impl_text.mono_l k
 unfold impl_text.f
 repeat' first
   | (with_reducible first | exact ih0 _ _ _ _ | exact LeO.refl _ | exact LeO.none _ | refine LeO.ite ?_ ?_ | refine LeO.bind ?_ (fun _ => ?_))
   | exact ih0 _ _ _ _
   | exact LeO.none _
   | refine LeO.ite ?_ ?_
   | refine LeO.bind ?_ (fun _ => ?_)
theorem impl_text.calls (k : Nat) (A0 : Option Addr) (c0 : Nat) (l0 : List Int) (r : ByteArray) (w : World) (hr0 : Kd.C (Kd.int .i64) w A0 l0.length l0) (hc0 : l0.length ≤ c0) (h : impl_text.f k l0 = some r) :
  Calls Tryz.prog 73 #[.slice A0 l0.length c0] w fun e w' => e = .returned (.string r) ∧ Below w.heap.size w w' := by
 have HR0 := Aside0.mk hr0
 have HC0 := Aside0.mk hc0
 clear hr0 hc0
 have HB := Aside0.mk (Below.refl w.heap.size w)
 have H := h
 unfold impl_text.f at H
 clear h
 obtain ⟨y221, hy221⟩ : ∃ y_ : List Int, y_ = (([] : List Int)) := ⟨_, rfl⟩
 replace H : (impl_text.l0 k y221 l0 (l0.length : Int) 0) = some r := hZ hy221 H
 have Ny221 := Aside0.mk hy221
 clear hy221
 have H' := Aside0.mk H
 clear H
 go_enter Tryz.func73, Tryz.ntmps73
 go_wp2_with (first | ((with_reducible refine gate_dst (N := 6) rfl ?_); refine Kd.R_lit (Kd.int .u8) _ 5 ?hg (N := 6) ?hd (xs := ([] : List Int)) (inner := []) (ok := fun _ => True) (okp := fun _ => True) ?hr ?hp (fun _ hk => hk) trivial (Below.refl _ _) (Nat.le_refl _) (by simp) ?_; (case hd => rfl); (case hg => rfl); (case hr => first | (go_simp; done) | (go_simp; rfl)); (case hp => exact (Reps.none _ _)); intro v222 w2 ho3 hb hg_ hnew_; clear hg_ hnew_; (first | rw [← Ny221.out] at ho3 | (simp only [Int.reduceToNat] at ho3; rw [← Ny221.out] at ho3)); have HO223 := Aside0.mk (Kd.R_lower ho3 (below_size bB)); replace HB := Aside0.mk (below_step bB hb); clear hb ho3))
 go_loopg [3, 9] k (fun kq v3 v9 w' => ∃ (x3_1 : List Int) (x9_1 : Int), v9 = .int .i64 x9_1 ∧ Aside0 (impl_text.l0 kq x3_1 l0 (l0.length : Int) x9_1 = some r) ∧ Aside0 (kq ≤ k) ∧ Aside0 (Kd.R (Kd.int .u8) 5 w' w.heap.size (fun _ => True) v3 x3_1) ∧ Aside0 (Below w.heap.size w w'))
 case atStart => exact ⟨(y221), (0), fR, H', ⟨Nat.le_refl _⟩, ⟨kR HO223⟩, ⟨bB⟩⟩
 case round =>
  clear H'
  try clear p2
  obtain ⟨x3_1, x9_1, rfl, HA, HK1, HO_3, HB⟩ := hrel
  cases gk with
  | zero => exact absurd HA.out (by simp [impl_text.l0])
  | succ k1 =>
   have H := HA.out
   clear HA
   simp only [impl_text.l0] at H
   by_cases c4 : x9_1 < (l0.length : Int)
   ·rw [if_pos c4] at H
    have c4b0 : decide (x9_1 < (l0.length : Int)) = true := decide_eq_true c4
    clear c4
    replace H := nz H; obtain ⟨c5, H⟩ := H
    have c5b0 : decide (0 ≤ x9_1) = true := decide_eq_true c5
    clear c5
    replace H := nz H; obtain ⟨c6, H⟩ := H
    have c6b0 : decide (x9_1 < (l0.length : Int)) = true := decide_eq_true c6
    clear c6
    replace H := nz H; obtain ⟨c7, H⟩ := H
    have LMc7 := Aside0.mk c7
    clear c7
    obtain ⟨y225, hy225⟩ : ∃ y_ : List Int, y_ = (x3_1 ++ [(wrap64 (48 + (rd l0 x9_1))) % 256]) := ⟨_, rfl⟩
    replace H : (impl_text.l0 k1 y225 l0 (l0.length : Int) (wrap64 (x9_1 + 1))) = some r := hZ hy225 H
    have Ny225 := Aside0.mk hy225
    clear hy225
    have H' := Aside0.mk H
    clear H
    have p224 : 0 ≤ (x9_1 : Int) := oD
    have q224 : x9_1 < (l0.length : Int) := oD
    obtain ⟨ad224, e224, hx224_0⟩ := Kd.at_int HR0.out x9_1 p224 q224
    cases e224
    replace hx224_0 := (HB.out.cell (World.block_lt_of_cell? w _ hx224_0)).trans hx224_0
    replace p224 := eq_true p224
    replace q224 := eq_true q224
    go_wp2_with (first | ((with_reducible refine gate_builtin (b := .append) (xs := #[.tmp 13, .tmp 17]) rfl ?_); at_builtin; refine Kd.R_append (Kd.int .u8) (w0 := w) w.heap.size rfl (.tmp 13) (.tmp 17) 22 5 (.int .u8 0) 1 rfl Tryz.underlying22 info5 rfl (by decide) (by omega) u3 x3_1 ((wrap64 (48 + (rd l0 x9_1))) % 256) [.int .u8 ((wrap64 (48 + (rd l0 x9_1))) % 256)] (fun _ => True) (fun _ => False) rfl rfl ?aP (fun _ hk => hk.elim) ?aF ?aO ?aB ?aS ?aL ?_; (case aP => exact rfl); (case aB => exact bB); (case aF => exact (fun _ _ => trivial)); (case aO => exact (kR HO_3)); (case aS => exact (below_size bB)); (case aL => have := LMc7.out; omega); intro v226 w8 ho hb hg hat; rw [← Ny225.out] at ho; have n0_ := Aside0.mk (hb); have n1_ := Aside0.mk (ho); clear HB; clear HO_3; have HB := n0_; have HO227 := n1_; clear n0_ n1_; clear ho hb hg hat))
    go_roundg k1
    case measure => have := HK1.out; omega
    case rel => exact ⟨(y225), (wrap64 (x9_1 + 1)), fR, H', ⟨by have := HK1.out; omega⟩, ⟨kR HO227⟩, ⟨bB⟩⟩
   ·rw [if_neg c4] at H
    have c4b0 : decide (x9_1 < (l0.length : Int)) = false := decide_eq_false c4
    clear c4
    obtain rfl := Option.some.inj H
    have hcv9 := own_string (P := Tryz.prog) Tryz.underlying22 Tryz.underlying5 Tryz.underlying9 (Kd.own_of_R HO_3.out)
    go_wp2
    go_ret
    exact ⟨rE, bB⟩

end Go.Proofs.YthpmpkmdjpaemaaGreat.P
