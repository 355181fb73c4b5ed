-- Printed by hp.py, a program of this session: a machine's side of laws, out of the translation; Lean checks it.
import Derived.Test.YtbncaiombmekhaaRBx0
import Derived.Test.YtbncaiombmekhaaRBx1
import Derived.Test.YtbncaiombmekhaaRBx2
import Derived.Test.YtbncaiombmekhaaRBx3
import Derived.Test.YtbncaiombmekhaaRBx5
namespace Go.Proofs.YtbncaiombmekhaaR.B
open Go.RowKit Go.Proofs.YtbncaiombmekhaaRW.PrintWords Go.Proofs.YtbncaiombmekhaaRW.PrintLast Go.Proofs.YtbncaiombmekhaaRW.PrintMore
attribute [local go_sem] max2_int min2_int max_two min_two max_three min_three max_four min_four   -- for this text's walks alone
set_option linter.unusedVariables false
set_option linter.unusedSimpArgs false

/-! ### spec_PassesOf: function 20 -/
def spec_PassesOf.f (k : Nat) (a0 : Int) (a1 : Int) (a2 : Int) (a3 : Int) : Option (Int × Bool) := (spec_diAsked.f a0 a1).bind fun t303 => (if t303 = true then ((spec_diStep.f a2).bind fun t304 => (if t304 = true then ((spec_l1In.f a3 0 (wrap64 (a0 - 1))).bind fun t305 => (if t305 = true then ((spec_diPasses.f k a0 a1 a2 a3).bind fun t306 => (some (t306, true))) else (some (0, false)))) else (some (0, false)))) else (some (0, false)))
theorem spec_PassesOf.mono : ∀ a0 a1 a2 a3 k, LeO (spec_PassesOf.f k a0 a1 a2 a3) (spec_PassesOf.f (k + 1) a0 a1 a2 a3) := by
  intro a0 a1 a2 a3 k
  unfold spec_PassesOf.f
  repeat' first
      | (with_reducible exact spec_diPasses.mono _ _ _ _ _)
      | (with_reducible exact LeO.refl _)
      | (with_reducible exact LeO.none _)
      | (with_reducible refine LeO.ite ?_ ?_)
      | (with_reducible refine LeO.bind ?_ (fun _ => ?_))
      | exact spec_diPasses.mono _ _ _ _ _
      | exact LeO.none _
      | refine LeO.ite ?_ ?_
      | refine LeO.bind ?_ (fun _ => ?_)
set_option maxHeartbeats 8000000 in
set_option maxRecDepth 100000 in
theorem spec_PassesOf.calls (k : Nat) (a0 : Int) (a1 : Int) (a2 : Int) (a3 : Int) (r1 : Int) (r2 : Bool) (w : World) (h : spec_PassesOf.f k a0 a1 a2 a3 = some (r1, r2)) :
    Calls Try.prog 20 #[.int .i64 a0, .int .i64 a1, .int .i64 a2, .int .i64 a3] w fun e w' => e = .returned (.tuple #[.int .i64 r1, .bool r2]) ∧ Drawn0 w w' := by
  have H : ((spec_diAsked.f a0 a1).bind fun t303 => (if t303 = true then ((spec_diStep.f a2).bind fun t304 => (if t304 = true then ((spec_l1In.f a3 0 (wrap64 (a0 - 1))).bind fun t305 => (if t305 = true then ((spec_diPasses.f k a0 a1 a2 a3).bind fun t306 => (some (t306, true))) else (some (0, false)))) else (some (0, false)))) else (some (0, false)))) = some (r1, r2) := h
  clear h
  replace H := Option.bind_eq_some_iff.mp H
  obtain ⟨t303, A50, H⟩ := H
  replace H : (if t303 = true then ((spec_diStep.f a2).bind fun t304 => (if t304 = true then ((spec_l1In.f a3 0 (wrap64 (a0 - 1))).bind fun t305 => (if t305 = true then ((spec_diPasses.f k a0 a1 a2 a3).bind fun t306 => (some (t306, true))) else (some (0, false)))) else (some (0, false)))) else (some (0, false))) = some (r1, r2) := H
  have A5 := Aside0.mk A50
  clear A50
  by_cases c6 : t303 = true
  · subst c6
    have H1 : ((spec_diStep.f a2).bind fun t304 => (if t304 = true then ((spec_l1In.f a3 0 (wrap64 (a0 - 1))).bind fun t305 => (if t305 = true then ((spec_diPasses.f k a0 a1 a2 a3).bind fun t306 => (some (t306, true))) else (some (0, false)))) else (some (0, false)))) = some (r1, r2) := by rw [if_pos rfl] at H; exact H
    clear H
    have H := H1
    clear H1
    replace H := Option.bind_eq_some_iff.mp H
    obtain ⟨t304, A70, H⟩ := H
    replace H : (if t304 = true then ((spec_l1In.f a3 0 (wrap64 (a0 - 1))).bind fun t305 => (if t305 = true then ((spec_diPasses.f k a0 a1 a2 a3).bind fun t306 => (some (t306, true))) else (some (0, false)))) else (some (0, false))) = some (r1, r2) := H
    have A7 := Aside0.mk A70
    clear A70
    by_cases c8 : t304 = true
    · subst c8
      have H1 : ((spec_l1In.f a3 0 (wrap64 (a0 - 1))).bind fun t305 => (if t305 = true then ((spec_diPasses.f k a0 a1 a2 a3).bind fun t306 => (some (t306, true))) else (some (0, false)))) = some (r1, r2) := by rw [if_pos rfl] at H; exact H
      clear H
      have H := H1
      clear H1
      replace H := Option.bind_eq_some_iff.mp H
      obtain ⟨t305, A90, H⟩ := H
      replace H : (if t305 = true then ((spec_diPasses.f k a0 a1 a2 a3).bind fun t306 => (some (t306, true))) else (some (0, false))) = some (r1, r2) := H
      have A9 := Aside0.mk A90
      clear A90
      by_cases c10 : t305 = true
      · subst c10
        have H1 : ((spec_diPasses.f k a0 a1 a2 a3).bind fun t306 => (some (t306, true))) = some (r1, r2) := by rw [if_pos rfl] at H; exact H
        clear H
        have H := H1
        clear H1
        replace H := Option.bind_eq_some_iff.mp H
        obtain ⟨t306, A110, H⟩ := H
        replace H : (some (t306, true)) = some (r1, r2) := H
        have A11 := Aside0.mk A110
        clear A110
        simp only [Option.some.injEq, Prod.mk.injEq] at H
        obtain ⟨rfl, rfl⟩ := H
        go_enter Try.func20, Try.ntmps20
        go_wp2_with (first | ((with_reducible refine gate_callee (f := 27) rfl ?_); refine goesL_ (some 12) rfl rfl Try.func27 (by kernel_rfl) rfl #[.int .i64 a0, .int .i64 a1] rfl (by (try simp only [List.map_toArray, List.map_cons, List.map_nil]); first | done | rfl | (simp only [List.length_drop, List.length_take]; rfl)) ?_; (with_reducible refine (spec_diAsked.calls a0 a1 true _ A5.out).mono ?_); rintro e w' ⟨rfl, ⟨nd, rfl⟩⟩; refine ⟨_, rfl, ?_⟩) | (go_at_call 45; (with_reducible refine (spec_diStep.calls a2 true _ A7.out).mono ?_); rintro e w' ⟨rfl, ⟨nd, rfl⟩⟩) | (go_at_call 46; (with_reducible refine (spec_l1In.calls a3 0 (wrap64 (a0 - 1)) true _ A9.out).mono ?_); rintro e w' ⟨rfl, ⟨nd, rfl⟩⟩) | ((with_reducible refine gate_callee (f := 47) rfl ?_); refine goesL_ (some 30) rfl rfl Try.func47 (by kernel_rfl) rfl #[.int .i64 a0, .int .i64 a1, .int .i64 a2, .int .i64 a3] rfl (by (try simp only [List.map_toArray, List.map_cons, List.map_nil]); first | done | rfl | (simp only [List.length_drop, List.length_take]; rfl)) ?_; (with_reducible refine (spec_diPasses.calls k a0 a1 a2 a3 t306 _ A11.out).mono ?_); rintro e w' ⟨rfl, ⟨nd, rfl⟩⟩; refine ⟨_, rfl, ?_⟩))
        go_ret2
        exact ⟨by first | rfl | (simp; done) | (simp [*]; done), by repeat (first | exact Drawn0.refl _ | apply Drawn0.step)⟩
      · replace c10 := Bool.eq_false_iff.mpr c10
        subst c10
        have H1 : (some (0, false)) = some (r1, r2) := by rw [if_neg (show ¬ (false = true) by decide)] at H; exact H
        clear H
        have H := H1
        clear H1
        simp only [Option.some.injEq, Prod.mk.injEq] at H
        obtain ⟨rfl, rfl⟩ := H
        go_enter Try.func20, Try.ntmps20
        go_wp2_with (first | ((with_reducible refine gate_callee (f := 27) rfl ?_); refine goesL_ (some 12) rfl rfl Try.func27 (by kernel_rfl) rfl #[.int .i64 a0, .int .i64 a1] rfl (by (try simp only [List.map_toArray, List.map_cons, List.map_nil]); first | done | rfl | (simp only [List.length_drop, List.length_take]; rfl)) ?_; (with_reducible refine (spec_diAsked.calls a0 a1 true _ A5.out).mono ?_); rintro e w' ⟨rfl, ⟨nd, rfl⟩⟩; refine ⟨_, rfl, ?_⟩) | (go_at_call 45; (with_reducible refine (spec_diStep.calls a2 true _ A7.out).mono ?_); rintro e w' ⟨rfl, ⟨nd, rfl⟩⟩) | (go_at_call 46; (with_reducible refine (spec_l1In.calls a3 0 (wrap64 (a0 - 1)) false _ A9.out).mono ?_); rintro e w' ⟨rfl, ⟨nd, rfl⟩⟩))
        go_ret2
        exact ⟨by first | rfl | (simp; done) | (simp [*]; done), by repeat (first | exact Drawn0.refl _ | apply Drawn0.step)⟩
    · replace c8 := Bool.eq_false_iff.mpr c8
      subst c8
      have H1 : (some (0, false)) = some (r1, r2) := by rw [if_neg (show ¬ (false = true) by decide)] at H; exact H
      clear H
      have H := H1
      clear H1
      simp only [Option.some.injEq, Prod.mk.injEq] at H
      obtain ⟨rfl, rfl⟩ := H
      go_enter Try.func20, Try.ntmps20
      go_wp2_with (first | ((with_reducible refine gate_callee (f := 27) rfl ?_); refine goesL_ (some 12) rfl rfl Try.func27 (by kernel_rfl) rfl #[.int .i64 a0, .int .i64 a1] rfl (by (try simp only [List.map_toArray, List.map_cons, List.map_nil]); first | done | rfl | (simp only [List.length_drop, List.length_take]; rfl)) ?_; (with_reducible refine (spec_diAsked.calls a0 a1 true _ A5.out).mono ?_); rintro e w' ⟨rfl, ⟨nd, rfl⟩⟩; refine ⟨_, rfl, ?_⟩) | (go_at_call 45; (with_reducible refine (spec_diStep.calls a2 false _ A7.out).mono ?_); rintro e w' ⟨rfl, ⟨nd, rfl⟩⟩))
      go_ret2
      exact ⟨by first | rfl | (simp; done) | (simp [*]; done), by repeat (first | exact Drawn0.refl _ | apply Drawn0.step)⟩
  · replace c6 := Bool.eq_false_iff.mpr c6
    subst c6
    have H1 : (some (0, false)) = some (r1, r2) := by rw [if_neg (show ¬ (false = true) by decide)] at H; exact H
    clear H
    have H := H1
    clear H1
    simp only [Option.some.injEq, Prod.mk.injEq] at H
    obtain ⟨rfl, rfl⟩ := H
    go_enter Try.func20, Try.ntmps20
    go_wp2_with (first | ((with_reducible refine gate_callee (f := 27) rfl ?_); refine goesL_ (some 12) rfl rfl Try.func27 (by kernel_rfl) rfl #[.int .i64 a0, .int .i64 a1] rfl (by (try simp only [List.map_toArray, List.map_cons, List.map_nil]); first | done | rfl | (simp only [List.length_drop, List.length_take]; rfl)) ?_; (with_reducible refine (spec_diAsked.calls a0 a1 false _ A5.out).mono ?_); rintro e w' ⟨rfl, ⟨nd, rfl⟩⟩; refine ⟨_, rfl, ?_⟩))
    go_ret2
    exact ⟨by first | rfl | (simp; done) | (simp [*]; done), by repeat (first | exact Drawn0.refl _ | apply Drawn0.step)⟩

/-! ### spec_DrawIsOpening: function 21 -/
theorem row_ok {W : World} {e base : Nat} {ok ok' : Nat → Prop} {v : Value} {xs : List Int} (h : Kd.R (Kd.int .i64) e W base ok v xs) (hk : ∀ k, v.ownBlock = some k → ok' k) : Kd.R (Kd.int .i64) e W base ok' v xs := by
  obtain ⟨h0, inner, ho, hr⟩ := h
  exact ⟨hk, inner, ho, hr.imp_ (fun _ _ hp => hp)⟩
/-- A row of numbers is kept where a cursor goes on. -/
theorem kept_row {w0 W W' : World} {g : Nat} {f0 : List Int} {f1 f2 : Int} {base : Nat} {v : Value} {xs : List Int} (hr : Kd.R (Kd.int .i64) 3 W base (fun _ => True) v xs) (hI : IsS43 w0 W g f0 f1 f2) (hk : KeepBut W W' g none) : Kd.R (Kd.int .i64) 3 W' base (fun _ => True) v xs :=
  Kd.R_mono (Kd.R_keep (hI.apart hr (by intro q hq; simp at hq; rcases hq with rfl | hq; exact (by decide); exact absurd hq (by simp [Kd.int, Kd.scalar]))) hk (fun q hq => hq.2)) (fun _ _ => trivial)
def spec_DrawIsOpening.sp (k : Nat) (l0 : List Int) (m s : Int) (ns : List Int) (a d : Int) : Option (Int × Int × List Int × List Int) := (spec_l1Cur_spins.f k l0 a d).bind fun q => some (m, s, ns, q.1)
def spec_DrawIsOpening.f (k : Nat) (l0 : List Int) : Option (Int × Int × List Int × List Int) := (spec_l1Cur_dial.f l0 0 0).bind fun a => (spec_l1Cur_numbers.f k l0 a.2.2.1 a.2.2.2 a.1).bind fun b => (spec_OpeningTurns.f k a.1 a.2.1 b.1).bind fun t =>
  if t.2 = true then (spec_l1Cur_one.f l0 b.2.1 b.2.2 3).bind fun o => if o.1 = true then spec_DrawIsOpening.sp k l0 a.1 a.2.1 b.1 o.2.1 o.2.2 else some (a.1, a.2.1, b.1, t.1)
  else spec_DrawIsOpening.sp k l0 a.1 a.2.1 b.1 b.2.1 b.2.2
theorem spec_DrawIsOpening.mono : ∀ l0 k, LeO (spec_DrawIsOpening.f k l0) (spec_DrawIsOpening.f (k + 1) l0) := by
  have hs : ∀ l0 m s ns a d k, LeO (spec_DrawIsOpening.sp k l0 m s ns a d) (spec_DrawIsOpening.sp (k + 1) l0 m s ns a d) := fun l0 m s ns a d k => LeO.bind (spec_l1Cur_spins.mono _ _ _ _) (fun q => LeO.refl _)
  exact fun l0 k => LeO.bind (LeO.refl _) (fun a => LeO.bind (spec_l1Cur_numbers.mono _ _ _ _ _) (fun b => LeO.bind (spec_OpeningTurns.mono _ _ _ _) (fun t => LeO.ite (LeO.bind (LeO.refl _) (fun o => LeO.ite (hs _ _ _ _ _ _ _) (LeO.refl _))) (hs _ _ _ _ _ _ _))))
set_option maxHeartbeats 8000000 in
set_option maxRecDepth 100000 in
theorem spec_DrawIsOpening.calls (k : Nat) (A0 : Option Addr) (c0 : Nat) (l0 : List Int) (r1 r2 : Int) (r3 r4 : List Int) (w : World) (hr0 : Kd.C (Kd.int .u8) w A0 l0.length l0) (hc0 : l0.length ≤ c0) (h : spec_DrawIsOpening.f k l0 = some (r1, r2, r3, r4)) :
    Calls Try.prog 21 #[.slice A0 l0.length c0] w fun e w' => ∃ v2_ v3_ : Value, e = .returned (.tuple #[.int .i64 r1, .int .i64 r2, v2_, v3_]) ∧ Kd.R (Kd.int .i64) 3 w' w.heap.size (fun k_ => some k_ ≠ (v3_ : Value).ownBlock) v2_ r3 ∧ Kd.R (Kd.int .i64) 3 w' w.heap.size (fun k_ => some k_ ≠ (v2_ : Value).ownBlock) v3_ r4 ∧ Below w.heap.size w w' := by
  have hu43 := Try.underlying43
  unfold spec_DrawIsOpening.f at h
  obtain ⟨⟨m, s, at1, sd1⟩, h1, h⟩ := Option.bind_eq_some_iff.mp h
  obtain ⟨⟨ns, at2, sd2⟩, h2, h⟩ := Option.bind_eq_some_iff.mp h
  obtain ⟨⟨t, tb⟩, h5, h⟩ := Option.bind_eq_some_iff.mp h
  have HI := Aside0.mk (cur_new w A0 c0 l0 hr0)
  have H1 := Aside0.mk h1
  have H4 := Aside0.mk h2
  have H5 := Aside0.mk h5
  clear hr0 hc0 h1 h2 h5
  cases tb with
  | false =>
    rw [if_neg (by simp)] at h
    unfold spec_DrawIsOpening.sp at h
    obtain ⟨⟨ys, at9, sd9⟩, h9, h⟩ := Option.bind_eq_some_iff.mp h
    simp only [Option.some.injEq, Prod.mk.injEq] at h
    obtain ⟨rfl, rfl, rfl, rfl⟩ := h
    have H9 := Aside0.mk h9
    clear h9
    go_enter Try.func21, Try.ntmps21
    go_wp2_with (first | (go_at_call 23; refine (spec_l1Cur_dial.calls w.heap.size l0 0 0 m s at1 sd1 w _ HI.out (below_alloc (Below.refl _ _) _) H1.out).mono ?_; rintro e w1 ⟨rfl, hI, hB, _⟩; have HI1 := Aside0.mk hI; have HB1 := Aside0.mk hB; clear hI hB) | (go_at_call 24; refine (spec_l1Cur_numbers.calls k w.heap.size l0 at1 sd1 m ns at2 sd2 w _ HI1.out HB1.out H4.out).mono ?_; rintro e w4 ⟨v4, rfl, hr, hI, hB, _⟩; obtain ⟨A4, c4, e4⟩ := Kd.R_slice hr; subst e4; have HN := Aside0.mk (Kd.R_lower hr HB1.out.size); have HNA := Aside0.mk (Kd.R_base hr); have HG1 := Aside0.mk HI1.out.lt; clear HI1 HB1; have HI1 := Aside0.mk hI; have HB1 := Aside0.mk hB; clear hr hI hB) | (go_at_call 7; refine (spec_OpeningTurns.calls k m s A4 c4 ns t false _ (Kd.R_reads' HN.out).2.2 (Kd.R_reads' HN.out).2.1 H5.out).mono ?_; rintro e w5 ⟨v5, rfl, hr, hb⟩; have HT := Aside0.mk (Kd.R_lower hr HB1.out.size); have HNE : Aside0 (∀ q, (Value.slice A4 ns.length c4).ownBlock = some q → v5.ownBlock = some q → False) := ⟨fun q h1 h2 => Nat.lt_irrefl _ (Nat.lt_of_lt_of_le (Kd.R_lt HN.out q h1) (Kd.R_base hr q h2))⟩; have n0 := Aside0.mk (Kd.R_below HN.out hb); have n1 := Aside0.mk (HI1.out.below hb); have n2 := Aside0.mk (below_then HB1.out HB1.out.size hb); clear HN HI1 HB1 hr hb; have HN := n0; have HI1 := n1; have HB1 := n2; clear n0 n1 n2) | (go_at_call 40; refine (spec_l1Cur_spins.calls k w.heap.size l0 at2 sd2 ys at9 sd9 w _ HI1.out HB1.out H9.out).mono ?_; rintro e w6 ⟨v6, rfl, hr, hI, hB, hk⟩; have HS := Aside0.mk (Kd.R_lower hr HB1.out.size); have HNS : Aside0 (∀ q, (Value.slice A4 ns.length c4).ownBlock = some q → v6.ownBlock = some q → False) := ⟨fun q h1 h2 => Nat.lt_irrefl _ (Nat.lt_of_lt_of_le (Kd.R_lt HN.out q h1) (Kd.R_base hr q h2))⟩; have n0 := Aside0.mk (kept_row HN.out HI1.out hk); clear HN; have HN := n0; have HB := Aside0.mk hB; clear n0 hr hI hB hk))
    (try simp only [Exit.inBlock, Exit.then])
    refine bodyPost_ret (results_tmp4 rfl _ _ _) rfl ?_
    exact ⟨_, _, rfl, row_ok HN.out (fun q hq e => HNS.out q hq e.symm), row_ok HS.out (fun q hq e => HNS.out q e.symm hq), HB.out⟩
  | true =>
    rw [if_pos rfl] at h
    obtain ⟨⟨o, at3, sd3⟩, h3, h⟩ := Option.bind_eq_some_iff.mp h
    have H3 := Aside0.mk h3
    clear h3
    cases o with
    | true =>
      rw [if_pos rfl] at h
      unfold spec_DrawIsOpening.sp at h
      obtain ⟨⟨ys, at9, sd9⟩, h9, h⟩ := Option.bind_eq_some_iff.mp h
      simp only [Option.some.injEq, Prod.mk.injEq] at h
      obtain ⟨rfl, rfl, rfl, rfl⟩ := h
      have H9 := Aside0.mk h9
      clear h9
      go_enter Try.func21, Try.ntmps21
      go_wp2_with (first | (go_at_call 23; refine (spec_l1Cur_dial.calls w.heap.size l0 0 0 m s at1 sd1 w _ HI.out (below_alloc (Below.refl _ _) _) H1.out).mono ?_; rintro e w1 ⟨rfl, hI, hB, _⟩; have HI1 := Aside0.mk hI; have HB1 := Aside0.mk hB; clear hI hB) | (go_at_call 24; refine (spec_l1Cur_numbers.calls k w.heap.size l0 at1 sd1 m ns at2 sd2 w _ HI1.out HB1.out H4.out).mono ?_; rintro e w4 ⟨v4, rfl, hr, hI, hB, _⟩; obtain ⟨A4, c4, e4⟩ := Kd.R_slice hr; subst e4; have HN := Aside0.mk (Kd.R_lower hr HB1.out.size); have HNA := Aside0.mk (Kd.R_base hr); have HG1 := Aside0.mk HI1.out.lt; clear HI1 HB1; have HI1 := Aside0.mk hI; have HB1 := Aside0.mk hB; clear hr hI hB) | (go_at_call 7; refine (spec_OpeningTurns.calls k m s A4 c4 ns t true _ (Kd.R_reads' HN.out).2.2 (Kd.R_reads' HN.out).2.1 H5.out).mono ?_; rintro e w5 ⟨v5, rfl, hr, hb⟩; have HT := Aside0.mk (Kd.R_lower hr HB1.out.size); have HNE : Aside0 (∀ q, (Value.slice A4 ns.length c4).ownBlock = some q → v5.ownBlock = some q → False) := ⟨fun q h1 h2 => Nat.lt_irrefl _ (Nat.lt_of_lt_of_le (Kd.R_lt HN.out q h1) (Kd.R_base hr q h2))⟩; have n0 := Aside0.mk (Kd.R_below HN.out hb); have n1 := Aside0.mk (HI1.out.below hb); have n2 := Aside0.mk (below_then HB1.out HB1.out.size hb); clear HN HI1 HB1 hr hb; have HN := n0; have HI1 := n1; have HB1 := n2; clear n0 n1 n2) | (go_at_call 39; refine (spec_l1Cur_one.calls w.heap.size l0 at2 sd2 3 true at3 sd3 w _ HI1.out HB1.out H3.out).mono ?_; rintro e w3 ⟨rfl, hI, hB, hk⟩; have n0 := Aside0.mk (kept_row HN.out HI1.out hk); have n1 := Aside0.mk (kept_row HT.out HI1.out hk); clear HN HT HI1 HB1; have HN := n0; have HT := n1; have HI1 := Aside0.mk hI; have HB1 := Aside0.mk hB; clear n0 n1 hI hB hk) | (go_at_call 40; refine (spec_l1Cur_spins.calls k w.heap.size l0 at3 sd3 ys at9 sd9 w _ HI1.out HB1.out H9.out).mono ?_; rintro e w6 ⟨v6, rfl, hr, hI, hB, hk⟩; have HS := Aside0.mk (Kd.R_lower hr HB1.out.size); have HNS : Aside0 (∀ q, (Value.slice A4 ns.length c4).ownBlock = some q → v6.ownBlock = some q → False) := ⟨fun q h1 h2 => Nat.lt_irrefl _ (Nat.lt_of_lt_of_le (Kd.R_lt HN.out q h1) (Kd.R_base hr q h2))⟩; have n0 := Aside0.mk (kept_row HN.out HI1.out hk); clear HN; have HN := n0; have HB := Aside0.mk hB; clear n0 hr hI hB hk))
      (try simp only [Exit.inBlock, Exit.then])
      refine bodyPost_ret (results_tmp4 rfl _ _ _) rfl ?_
      exact ⟨_, _, rfl, row_ok HN.out (fun q hq e => HNS.out q hq e.symm), row_ok HS.out (fun q hq e => HNS.out q e.symm hq), HB.out⟩
    | false =>
      rw [if_neg (by simp)] at h
      simp only [Option.some.injEq, Prod.mk.injEq] at h
      obtain ⟨rfl, rfl, rfl, rfl⟩ := h
      go_enter Try.func21, Try.ntmps21
      go_wp2_with (first | (go_at_call 23; refine (spec_l1Cur_dial.calls w.heap.size l0 0 0 m s at1 sd1 w _ HI.out (below_alloc (Below.refl _ _) _) H1.out).mono ?_; rintro e w1 ⟨rfl, hI, hB, _⟩; have HI1 := Aside0.mk hI; have HB1 := Aside0.mk hB; clear hI hB) | (go_at_call 24; refine (spec_l1Cur_numbers.calls k w.heap.size l0 at1 sd1 m ns at2 sd2 w _ HI1.out HB1.out H4.out).mono ?_; rintro e w4 ⟨v4, rfl, hr, hI, hB, _⟩; obtain ⟨A4, c4, e4⟩ := Kd.R_slice hr; subst e4; have HN := Aside0.mk (Kd.R_lower hr HB1.out.size); have HNA := Aside0.mk (Kd.R_base hr); have HG1 := Aside0.mk HI1.out.lt; clear HI1 HB1; have HI1 := Aside0.mk hI; have HB1 := Aside0.mk hB; clear hr hI hB) | (go_at_call 7; refine (spec_OpeningTurns.calls k m s A4 c4 ns t true _ (Kd.R_reads' HN.out).2.2 (Kd.R_reads' HN.out).2.1 H5.out).mono ?_; rintro e w5 ⟨v5, rfl, hr, hb⟩; have HT := Aside0.mk (Kd.R_lower hr HB1.out.size); have HNE : Aside0 (∀ q, (Value.slice A4 ns.length c4).ownBlock = some q → v5.ownBlock = some q → False) := ⟨fun q h1 h2 => Nat.lt_irrefl _ (Nat.lt_of_lt_of_le (Kd.R_lt HN.out q h1) (Kd.R_base hr q h2))⟩; have n0 := Aside0.mk (Kd.R_below HN.out hb); have n1 := Aside0.mk (HI1.out.below hb); have n2 := Aside0.mk (below_then HB1.out HB1.out.size hb); clear HN HI1 HB1 hr hb; have HN := n0; have HI1 := n1; have HB1 := n2; clear n0 n1 n2) | (go_at_call 39; refine (spec_l1Cur_one.calls w.heap.size l0 at2 sd2 3 false at3 sd3 w _ HI1.out HB1.out H3.out).mono ?_; rintro e w3 ⟨rfl, hI, hB, hk⟩; have n0 := Aside0.mk (kept_row HN.out HI1.out hk); have n1 := Aside0.mk (kept_row HT.out HI1.out hk); clear HN HT HI1 HB1; have HN := n0; have HT := n1; have HI1 := Aside0.mk hI; have HB1 := Aside0.mk hB; clear n0 n1 hI hB hk))
      (try simp only [Exit.inBlock, Exit.then])
      refine bodyPost_ret (results_tmp4 rfl _ _ _) rfl ?_
      exact ⟨_, _, rfl, row_ok HN.out (fun q hq e => HNE.out q hq e.symm), row_ok HT.out (fun q hq e => HNE.out q e.symm hq), HB1.out⟩

/-! ### spec_IsOpening: function 22 -/
def spec_IsOpening.j0 : Nat → Int → Int → List Int → List Int → Bool → Option (Bool × Bool)
  | 0, _, _, _, _, _ => none
  | k + 1, x0, x1, x2, x3, x24 => if x24 = true then (some (false, false)) else ((spec_diOpen.f k x0 x1 x2).bind fun t310 => ((spec_l1Same.f k t310 x3).bind fun t313 => (some (t313, true))))
def spec_IsOpening.f (k : Nat) (a0 : Int) (a1 : Int) (l2 : List Int) (l3 : List Int) : Option (Bool × Bool) := (spec_diAsked.f a0 a1).bind fun t307 => (if t307 = true then ((spec_diCode.f k a0 l2).bind fun t308 => (if t308 = true then ((spec_diSteps.f k l3).bind fun t309 => (spec_IsOpening.j0 k a0 a1 l2 l3 (!t309))) else (spec_IsOpening.j0 k a0 a1 l2 l3 true))) else (spec_IsOpening.j0 k a0 a1 l2 l3 true))
theorem spec_IsOpening.mono_l : ∀ k, (∀ y0 y1 y2 y3 y4, LeO (spec_IsOpening.j0 k y0 y1 y2 y3 y4) (spec_IsOpening.j0 (k + 1) y0 y1 y2 y3 y4))
  | 0 => fun _ _ _ _ _ r h => by simp [spec_IsOpening.j0] at h
  | k + 1 => by
    have ih0 := spec_IsOpening.mono_l k
    · intro y0 y1 y2 y3 y4
      unfold spec_IsOpening.j0
      repeat' first
      | (with_reducible exact ih0 _ _ _ _ _)
      | (with_reducible exact spec_diCode.mono _ _ _)
      | (with_reducible exact spec_diOpen.mono _ _ _ _)
      | (with_reducible exact spec_diSteps.mono _ _)
      | (with_reducible exact spec_l1Same.mono _ _ _)
      | (with_reducible exact LeO.refl _)
      | (with_reducible exact LeO.none _)
      | (with_reducible refine LeO.ite ?_ ?_)
      | (with_reducible refine LeO.bind ?_ (fun _ => ?_))
      | exact ih0 _ _ _ _ _
      | exact spec_diCode.mono _ _ _
      | exact spec_diOpen.mono _ _ _ _
      | exact spec_diSteps.mono _ _
      | exact spec_l1Same.mono _ _ _
      | exact LeO.none _
      | refine LeO.ite ?_ ?_
      | refine LeO.bind ?_ (fun _ => ?_)
theorem spec_IsOpening.mono : ∀ a0 a1 a2 a3 k, LeO (spec_IsOpening.f k a0 a1 a2 a3) (spec_IsOpening.f (k + 1) a0 a1 a2 a3) := by
  intro a0 a1 a2 a3 k
  have ih0 := spec_IsOpening.mono_l k
  unfold spec_IsOpening.f
  repeat' first
      | (with_reducible exact ih0 _ _ _ _ _)
      | (with_reducible exact spec_diCode.mono _ _ _)
      | (with_reducible exact spec_diOpen.mono _ _ _ _)
      | (with_reducible exact spec_diSteps.mono _ _)
      | (with_reducible exact spec_l1Same.mono _ _ _)
      | (with_reducible exact LeO.refl _)
      | (with_reducible exact LeO.none _)
      | (with_reducible refine LeO.ite ?_ ?_)
      | (with_reducible refine LeO.bind ?_ (fun _ => ?_))
      | exact ih0 _ _ _ _ _
      | exact spec_diCode.mono _ _ _
      | exact spec_diOpen.mono _ _ _ _
      | exact spec_diSteps.mono _ _
      | exact spec_l1Same.mono _ _ _
      | exact LeO.none _
      | refine LeO.ite ?_ ?_
      | refine LeO.bind ?_ (fun _ => ?_)
set_option maxHeartbeats 8000000 in
set_option maxRecDepth 100000 in
theorem spec_IsOpening.calls (k : Nat) (a0 : Int) (a1 : Int) (A2 : Option Addr) (c2 : Nat) (l2 : List Int) (A3 : Option Addr) (c3 : Nat) (l3 : List Int) (r1 : Bool) (r2 : Bool) (w : World) (hr2 : Kd.C (Kd.int .i64) w A2 l2.length l2) (hc2 : l2.length ≤ c2) (hr3 : Kd.C (Kd.int .i64) w A3 l3.length l3) (hc3 : l3.length ≤ c3) (h : spec_IsOpening.f k a0 a1 l2 l3 = some (r1, r2)) :
    Calls Try.prog 22 #[.int .i64 a0, .int .i64 a1, .slice A2 l2.length c2, .slice A3 l3.length c3] w fun e w' => e = .returned (.tuple #[.bool r1, .bool r2]) ∧ Below w.heap.size w w' := by
  have HR2 := Aside0.mk hr2
  have HC2 := Aside0.mk hc2
  clear hr2 hc2
  have HR3 := Aside0.mk hr3
  have HC3 := Aside0.mk hc3
  clear hr3 hc3
  have HB := Aside0.mk (Below.refl w.heap.size w)
  have H : ((spec_diAsked.f a0 a1).bind fun t307 => (if t307 = true then ((spec_diCode.f k a0 l2).bind fun t308 => (if t308 = true then ((spec_diSteps.f k l3).bind fun t309 => (spec_IsOpening.j0 k a0 a1 l2 l3 (!t309))) else (spec_IsOpening.j0 k a0 a1 l2 l3 true))) else (spec_IsOpening.j0 k a0 a1 l2 l3 true))) = some (r1, r2) := h
  clear h
  have HC5 := Aside0.mk H
  clear H
  go_enter Try.func22, Try.ntmps22
  go_upto_region 1 with (fail)
  go_cut [24] (fun v24 wc => ∃ (kq : Nat) (x24_4 : Bool), v24 = .bool x24_4 ∧ Aside0 (spec_IsOpening.j0 kq a0 a1 l2 l3 x24_4 = some (r1, r2)) ∧ Aside0 (kq ≤ k) ∧ Aside0 (Below w.heap.size w wc))
  case first =>
    have H := HC5.out
    clear HC5
    replace H := Option.bind_eq_some_iff.mp H
    obtain ⟨t307, A60, H⟩ := H
    replace H : (if t307 = true then ((spec_diCode.f k a0 l2).bind fun t308 => (if t308 = true then ((spec_diSteps.f k l3).bind fun t309 => (spec_IsOpening.j0 k a0 a1 l2 l3 (!t309))) else (spec_IsOpening.j0 k a0 a1 l2 l3 true))) else (spec_IsOpening.j0 k a0 a1 l2 l3 true)) = some (r1, r2) := H
    have A6 := Aside0.mk A60
    clear A60
    by_cases c7 : t307 = true
    · subst c7
      have H1 : ((spec_diCode.f k a0 l2).bind fun t308 => (if t308 = true then ((spec_diSteps.f k l3).bind fun t309 => (spec_IsOpening.j0 k a0 a1 l2 l3 (!t309))) else (spec_IsOpening.j0 k a0 a1 l2 l3 true))) = some (r1, r2) := by rw [if_pos rfl] at H; exact H
      clear H
      have H := H1
      clear H1
      replace H := Option.bind_eq_some_iff.mp H
      obtain ⟨t308, A80, H⟩ := H
      replace H : (if t308 = true then ((spec_diSteps.f k l3).bind fun t309 => (spec_IsOpening.j0 k a0 a1 l2 l3 (!t309))) else (spec_IsOpening.j0 k a0 a1 l2 l3 true)) = some (r1, r2) := H
      have A8 := Aside0.mk A80
      clear A80
      by_cases c9 : t308 = true
      · subst c9
        have H1 : ((spec_diSteps.f k l3).bind fun t309 => (spec_IsOpening.j0 k a0 a1 l2 l3 (!t309))) = some (r1, r2) := by rw [if_pos rfl] at H; exact H
        clear H
        have H := H1
        clear H1
        replace H := Option.bind_eq_some_iff.mp H
        obtain ⟨t309, A100, H⟩ := H
        replace H : (spec_IsOpening.j0 k a0 a1 l2 l3 (!t309)) = some (r1, r2) := H
        have A10 := Aside0.mk A100
        clear A100
        have H' := Aside0.mk H
        clear H
        go_wp2_with (first | ((with_reducible refine gate_callee (f := 27) rfl ?_); refine goesL_ (some 12) rfl rfl Try.func27 (by kernel_rfl) rfl #[.int .i64 a0, .int .i64 a1] rfl (by (try simp only [List.map_toArray, List.map_cons, List.map_nil]); first | done | rfl | (simp only [List.length_drop, List.length_take]; rfl)) ?_; (with_reducible refine (spec_diAsked.calls a0 a1 true _ A6.out).mono ?_); rintro e w' ⟨rfl, ⟨nd, rfl⟩⟩; refine ⟨_, rfl, ?_⟩) | (go_at_call 28; (with_reducible refine (spec_diCode.calls k a0 _ _ l2 true _ ?side1 ?side2 A8.out).mono ?_); (case side1 => repeat (first | exact (Kd.C_below HR2.out (by repeat (first | (with_reducible first | exact HB.out | apply below_alloc | apply pw_below_drewN | apply below_drew1) | exact HB.out))) | (with_reducible refine Kd.C_alloc ?_ _) | (with_reducible refine Kd.C_drewN ?_ _) | (with_reducible refine Kd.C_drew ?_))); (case side2 => exact HC2.out); rintro e w' ⟨rfl, ⟨nd, rfl⟩⟩) | (go_at_call 30; (with_reducible refine (spec_diSteps.calls k _ _ l3 t309 _ ?side1 ?side2 A10.out).mono ?_); (case side1 => repeat (first | exact (Kd.C_below HR3.out (by repeat (first | (with_reducible first | exact HB.out | apply below_alloc | apply pw_below_drewN | apply below_drew1) | exact HB.out))) | (with_reducible refine Kd.C_alloc ?_ _) | (with_reducible refine Kd.C_drewN ?_ _) | (with_reducible refine Kd.C_drew ?_))); (case side2 => exact HC3.out); rintro e w' ⟨rfl, ⟨nd, rfl⟩⟩))
        go_meet
        case rel => exact ⟨_, (!t309), (by first | rfl | (simp; done) | (simp [*]; done)), H', ⟨by first | omega | exact Nat.le_refl _⟩, ⟨by repeat (first | (with_reducible first | exact HB.out | apply below_alloc | apply pw_below_drewN | apply below_drew1) | exact HB.out)⟩⟩
      · replace c9 := Bool.eq_false_iff.mpr c9
        subst c9
        have H1 : (spec_IsOpening.j0 k a0 a1 l2 l3 true) = some (r1, r2) := by rw [if_neg (show ¬ (false = true) by decide)] at H; exact H
        clear H
        have H := H1
        clear H1
        have H' := Aside0.mk H
        clear H
        go_wp2_with (first | ((with_reducible refine gate_callee (f := 27) rfl ?_); refine goesL_ (some 12) rfl rfl Try.func27 (by kernel_rfl) rfl #[.int .i64 a0, .int .i64 a1] rfl (by (try simp only [List.map_toArray, List.map_cons, List.map_nil]); first | done | rfl | (simp only [List.length_drop, List.length_take]; rfl)) ?_; (with_reducible refine (spec_diAsked.calls a0 a1 true _ A6.out).mono ?_); rintro e w' ⟨rfl, ⟨nd, rfl⟩⟩; refine ⟨_, rfl, ?_⟩) | (go_at_call 28; (with_reducible refine (spec_diCode.calls k a0 _ _ l2 false _ ?side1 ?side2 A8.out).mono ?_); (case side1 => repeat (first | exact (Kd.C_below HR2.out (by repeat (first | (with_reducible first | exact HB.out | apply below_alloc | apply pw_below_drewN | apply below_drew1) | exact HB.out))) | (with_reducible refine Kd.C_alloc ?_ _) | (with_reducible refine Kd.C_drewN ?_ _) | (with_reducible refine Kd.C_drew ?_))); (case side2 => exact HC2.out); rintro e w' ⟨rfl, ⟨nd, rfl⟩⟩))
        go_meet
        case rel => exact ⟨_, (true), (by first | rfl | (simp; done) | (simp [*]; done)), H', ⟨by first | omega | exact Nat.le_refl _⟩, ⟨by repeat (first | (with_reducible first | exact HB.out | apply below_alloc | apply pw_below_drewN | apply below_drew1) | exact HB.out)⟩⟩
    · replace c7 := Bool.eq_false_iff.mpr c7
      subst c7
      have H1 : (spec_IsOpening.j0 k a0 a1 l2 l3 true) = some (r1, r2) := by rw [if_neg (show ¬ (false = true) by decide)] at H; exact H
      clear H
      have H := H1
      clear H1
      have H' := Aside0.mk H
      clear H
      go_wp2_with (first | ((with_reducible refine gate_callee (f := 27) rfl ?_); refine goesL_ (some 12) rfl rfl Try.func27 (by kernel_rfl) rfl #[.int .i64 a0, .int .i64 a1] rfl (by (try simp only [List.map_toArray, List.map_cons, List.map_nil]); first | done | rfl | (simp only [List.length_drop, List.length_take]; rfl)) ?_; (with_reducible refine (spec_diAsked.calls a0 a1 false _ A6.out).mono ?_); rintro e w' ⟨rfl, ⟨nd, rfl⟩⟩; refine ⟨_, rfl, ?_⟩))
      go_meet
      case rel => exact ⟨_, (true), (by first | rfl | (simp; done) | (simp [*]; done)), H', ⟨by first | omega | exact Nat.le_refl _⟩, ⟨by repeat (first | (with_reducible first | exact HB.out | apply below_alloc | apply pw_below_drewN | apply below_drew1) | exact HB.out)⟩⟩
  case rest =>
    clear HC5
    try clear c2
    try clear p2
    try clear c3
    try clear c7
    try clear c9
    obtain ⟨kq, x24_4, rfl, HA, HJ4, HB⟩ := hcut
    cases kq with
    | zero => exact absurd HA.out (by simp [spec_IsOpening.j0])
    | succ kj4 =>
      have H := HA.out
      clear HA
      simp only [spec_IsOpening.j0] at H
      by_cases c11 : x24_4 = true
      · subst c11
        have H1 : (some (false, false)) = some (r1, r2) := by rw [if_pos rfl] at H; exact H
        clear H
        have H := H1
        clear H1
        simp only [Option.some.injEq, Prod.mk.injEq] at H
        obtain ⟨rfl, rfl⟩ := H
        go_wp2
        go_ret2
        exact ⟨by first | rfl | (simp [errW_none, errW_some] <;> rfl) | (simp [*, errW_none, errW_some] <;> rfl), by repeat (first | (with_reducible first | exact HB.out | apply below_alloc | apply pw_below_drewN | apply below_drew1) | exact HB.out)⟩
      · replace c11 := Bool.eq_false_iff.mpr c11
        subst c11
        have H1 : ((spec_diOpen.f kj4 a0 a1 l2).bind fun t310 => ((spec_l1Same.f kj4 t310 l3).bind fun t313 => (some (t313, true)))) = some (r1, r2) := by rw [if_neg (show ¬ (false = true) by decide)] at H; exact H
        clear H
        have H := H1
        clear H1
        replace H := Option.bind_eq_some_iff.mp H
        obtain ⟨t310, A120, H⟩ := H
        replace H : ((spec_l1Same.f kj4 t310 l3).bind fun t313 => (some (t313, true))) = some (r1, r2) := H
        have A12 := Aside0.mk A120
        clear A120
        replace H := Option.bind_eq_some_iff.mp H
        obtain ⟨t313, A130, H⟩ := H
        replace H : (some (t313, true)) = some (r1, r2) := H
        have A13 := Aside0.mk A130
        clear A130
        simp only [Option.some.injEq, Prod.mk.injEq] at H
        obtain ⟨rfl, rfl⟩ := H
        go_wp2_with (first | ((with_reducible refine gate_callee (f := 29) rfl ?_); refine goesL_ (some 28) rfl rfl Try.func29 (by kernel_rfl) rfl #[.int .i64 a0, .int .i64 a1, .slice A2 l2.length c2] rfl (by (try simp only [List.map_toArray, List.map_cons, List.map_nil]); first | done | rfl | (simp only [List.length_drop, List.length_take]; rfl)) ?_; (with_reducible refine (spec_diOpen.calls kj4 a0 a1 _ _ l2 t310 _ ?side1 ?side2 A12.out).mono ?_); (case side1 => repeat (first | exact (Kd.C_below HR2.out HB.out) | (with_reducible refine Kd.C_alloc ?_ _) | (with_reducible refine Kd.C_drewN ?_ _) | (with_reducible refine Kd.C_drew ?_))); (case side2 => exact HC2.out); rintro e w14 ⟨v311, rfl, ho0, hb⟩; refine ⟨_, rfl, ?_⟩; have n0_ := Aside0.mk (Kd.R_lower ho0 (below_size (by repeat (first | (with_reducible first | exact HB.out | apply below_alloc | apply pw_below_drewN | apply below_drew1) | exact HB.out)))); have n1_ := Aside0.mk (below_step (by repeat (first | (with_reducible first | exact HB.out | apply below_alloc | apply pw_below_drewN | apply below_drew1) | exact HB.out)) hb); clear HB; have HO312 := n0_; have HB := n1_; clear n0_ n1_; (try clear hb); (try clear hb2); (try clear hk); (try clear hi); (try clear ho0); obtain ⟨Ao15, co15, eo15⟩ := Kd.R_slice HO312.out; subst eo15) | ((with_reducible refine gate_callee (f := 41) rfl ?_); refine goesL_ (some 30) rfl rfl Try.func41 (by kernel_rfl) rfl #[.slice Ao15 t310.length co15, .slice A3 l3.length c3] rfl (by (try simp only [List.map_toArray, List.map_cons, List.map_nil]); first | done | rfl | (simp only [List.length_drop, List.length_take]; rfl)) ?_; (with_reducible refine (spec_l1Same.calls kj4 _ _ t310 _ _ l3 t313 _ ?side1 ?side2 ?side3 ?side4 A13.out).mono ?_); (case side1 => repeat (first | exact (Kd.R_reads' HO312.out).2.2 | (with_reducible refine Kd.C_alloc ?_ _) | (with_reducible refine Kd.C_drewN ?_ _) | (with_reducible refine Kd.C_drew ?_))); (case side2 => exact (Kd.R_reads' HO312.out).2.1); (case side3 => repeat (first | exact (Kd.C_below HR3.out HB.out) | (with_reducible refine Kd.C_alloc ?_ _) | (with_reducible refine Kd.C_drewN ?_ _) | (with_reducible refine Kd.C_drew ?_))); (case side4 => exact HC3.out); rintro e w' ⟨rfl, ⟨nd, rfl⟩⟩; refine ⟨_, rfl, ?_⟩))
        go_ret2
        exact ⟨by first | rfl | (simp [errW_none, errW_some] <;> rfl) | (simp [*, errW_none, errW_some] <;> rfl), by repeat (first | (with_reducible first | exact HB.out | apply below_alloc | apply pw_below_drewN | apply below_drew1) | exact HB.out)⟩

end Go.Proofs.YtbncaiombmekhaaR.B
