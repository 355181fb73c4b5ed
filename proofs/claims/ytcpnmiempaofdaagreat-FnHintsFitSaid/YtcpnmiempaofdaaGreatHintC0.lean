import Derived.Test.YtcpnmiempaofdaaGreatGx7
import Derived.Test.YtcpnmiempaofdaaGreatHintB
namespace Go.Proofs.YtcpnmiempaofdaaGreat.Pure
open Go.RowKit Go.Proofs.YtcpnmiempaofdaaGreat.G Go.Proofs.YtcpnmiempaofdaaGreatW.PrintWords Go.Proofs.YtcpnmiempaofdaaGreatW.PrintLast Go.Proofs.YtcpnmiempaofdaaGreatW.PrintMore
set_option linter.unusedVariables false
theorem anyO_ev {α : Type} {p : Nat → α → Option Bool} {q : α → Bool} : ∀ l : List α, (∀ x ∈ l, Ev (fun K => p K x) (q x)) → Ev (fun K => anyO (p K) l) (l.any q)
 | [], _ => Ev.now _
 | x :: xs, h => by
  refine Ev.bind (h x List.mem_cons_self) ?_
  rw [List.any_cons]
  by_cases hq : q x = true
  ·rw [hq, Bool.true_or]
   exact Ev.pos rfl (Ev.now _)
  ·rw [Bool.eq_false_iff.mpr hq, Bool.false_or]
   exact Ev.neg (by decide) (anyO_ev xs (fun y hy => h y (List.mem_cons_of_mem _ hy)))
def fitB (c : ByteArray) (x : S35) : Bool := decide ((hintV x.f0 c).1 = x.f1 ∧ (hintV x.f0 c).2 = x.f2)
def fitsB (l : List S35) (c : ByteArray) : Bool := l.all (fitB c)
def okH (n : Nat) (l : List S35) : Prop := l.length ≤ 1000 ∧ ∀ x ∈ l, digsB x.f0 ∧ x.f0.size = n
theorem implFits_ev (n : Nat) (l : List S35) (hl : okH n l) (c : ByteArray) (hc : digsB c) (hs : c.size = n) : Ev (fun K => impl_fits.f K l c) (fitsB l c) := by
 unfold impl_fits.f
 refine Ev.pos (by have := hl.1; omega) ?_
 have h1 := anyO_ev (p := fun K => fits1 K c) (q := fun x => !fitB c x) l (fun x hx => by
  have := hl.2 x hx
  unfold fits1
  refine Ev.congr (f := fun K => (impl_hint.f K x.f0 c).bind fun r => some (!decide (r.1 = x.f1 ∧ r.2 = x.f2))) (fun K => by rw [Option.map_eq_bind]; rfl) (Ev.bind (implHint_ev x.f0 c this.1 hc (by omega)) (Ev.now _)))
 refine Ev.congr (f := fun K => (anyO (fits1 K c) l).bind fun b => some (!b)) (fun K => by rw [Option.map_eq_bind]; rfl) (Ev.bind h1 (Ev.val (Ev.now _) ?_))
 unfold fitsB
 rw [← List.all_eq_not_any_not]
theorem hiFits_l0 (n : Nat) (l : List S35) (hl : okH n l) (c : ByteArray) (hs : c.size = n) : ∀ (d i : Nat), i + d = l.length → Ev (fun K => spec_hiFits.l0 K c l (l.length : Int) i) ((l.drop i).all (fitB c)) := by
 intro d
 induction d with
 | zero =>
  intro i hi
  refine Ev.step (fun k => by rw [spec_hiFits.l0]) ?_
  refine Ev.neg (by omega) (Ev.val (Ev.now _) ?_)
  rw [List.drop_eq_nil_of_le (by omega)]
  rfl
 | succ d ih =>
  intro i hi
  have h1 : i < l.length := by omega
  have hl1 := hl.1
  have hr : rd_T35 l (i : Int) = l[i] := by simp [rd_T35, List.getD, h1]
  have ho := hl.2 _ (List.getElem_mem h1)
  refine Ev.step (fun k => by rw [spec_hiFits.l0]) ?_
  refine Ev.pos (by omega) (Ev.pos (by omega) (Ev.pos (by omega) ?_))
  rw [hr, w64n (by omega), List.drop_eq_getElem_cons h1, List.all_cons]
  refine Ev.let_ (specHint_some _ c ho.1 (by omega)) ?_
  unfold fitB
  by_cases h2 : (hintV l[i].f0 c).1 = l[i].f1
  ·refine Ev.pos h2 ?_
   by_cases h3 : (hintV l[i].f0 c).2 = l[i].f2
   ·rw [decide_eq_true ⟨h2, h3⟩, Bool.true_and]
    exact Ev.pos h3 (ih (i + 1) (by omega))
   ·rw [decide_eq_false (fun hc => h3 hc.2), Bool.false_and]
    exact Ev.neg h3 (Ev.now _)
  ·rw [decide_eq_false (fun hc => h2 hc.1), Bool.false_and]
   exact Ev.neg h2 (Ev.now _)
theorem hiFits_ev (n : Nat) (l : List S35) (hl : okH n l) (c : ByteArray) (hs : c.size = n) : Ev (fun K => spec_hiFits.f K l c) (fitsB l c) := by
 unfold spec_hiFits.f fitsB
 have := hiFits_l0 n l hl c hs l.length 0 (by omega)
 simpa using this
end Go.Proofs.YtcpnmiempaofdaaGreat.Pure
