/- What the laws' own helpers on hints and texts come to: copies, comparisons, marks. -/
import Derived.Test.YthikcnbjfnkglabTx0
import Derived.Test.YthikcnbjfnkglabTx1
import Derived.Test.YthikcnbjfnkglabHintE
namespace Go.Proofs.Ythikcnbjfnkglab.Pure
open Go.RowKit Go.Proofs.Ythikcnbjfnkglab.T Go.Proofs.YthikcnbjfnkglabW.PrintWords Go.Proofs.YthikcnbjfnkglabW.PrintLast Go.Proofs.YthikcnbjfnkglabW.PrintMore
set_option linter.unusedVariables false

/-- A law's hint as the program's. -/
def toH (x : S74) : S47 := ⟨x.f0, x.f1, x.f2⟩
theorem toHintS_l0 (xs : List S74) (hn : xs.length < 1099511627776) : ∀ (d i : Nat) (ys : List S47), i + d = xs.length → ys.length = xs.length → ys.take i = (xs.take i).map toH →
    Ev (fun k => laws_toHintS.l0 k xs ys (i : Int)) (xs.map toH) := by
  intro d
  induction d with
  | zero =>
    intro i ys hi hl he
    refine Ev.step (fun k => by rw [laws_toHintS.l0]) ?_
    refine Ev.neg (by omega) (Ev.val (Ev.now _) ?_)
    rw [List.take_of_length_le (by omega), List.take_of_length_le (by omega)] at he
    exact he
  | succ d ih =>
    intro i ys hi hl he
    have h1 : i < xs.length := by omega
    have hr : rd_T74 xs (i : Int) = xs[i] := by simp [rd_T74, List.getD, h1]
    refine Ev.step (fun k => by rw [laws_toHintS.l0]) ?_
    refine Ev.pos (by omega) (Ev.pos (by omega) ?_)
    rw [hr]
    refine Ev.let_ (show laws_toHint.f xs[i].f0 xs[i].f1 xs[i].f2 = some (xs[i].f0, xs[i].f1, xs[i].f2) from rfl) (Ev.pos (by omega) ?_)
    rw [w64n (by omega), Int.toNat_natCast]
    refine ih (i + 1) _ (by omega) (by simp [hl]) ?_
    rw [List.take_succ_eq_append_getElem (by simp; omega), List.take_succ_eq_append_getElem h1, List.take_set]
    rw [List.set_eq_of_length_le (by simp; omega), he]
    rw [List.map_append, List.getElem_set_self]
    rfl
theorem toHintS_ev (xs : List S74) (hn : xs.length < 10000000) : Ev (fun k => laws_toHintS.f k xs) (xs.map toH) := by
  unfold laws_toHintS.f
  refine Ev.pos (by omega) (Ev.pos (by omega) ?_)
  rw [Int.toNat_natCast]
  exact toHintS_l0 xs (by omega) xs.length 0 _ (by omega) (by simp) rfl
/-- The size of hints told: less than nothing, or they are few and short. -/
theorem szHintS_l0 (xs : List S74) (hn : xs.length < 1099511627776) (hs : ∀ x ∈ xs, x.f0.size ≤ maxLen) : ∀ (d i : Nat) (left : Int), i + d = xs.length → 0 ≤ left → left ≤ 1048576 →
    ∃ r, Ev (fun k => laws_szHintS.l0 k xs left (i : Int)) r ∧ (r < 0 ∨ ∀ x ∈ xs.drop i, x.f0.size ≤ 1048576) := by
  intro d
  induction d with
  | zero =>
    intro i left hi h0 h1
    refine ⟨left, ?_, .inr (by rw [List.drop_eq_nil_of_le (by omega)]; simp)⟩
    refine Ev.step (fun k => by rw [laws_szHintS.l0]) ?_
    exact Ev.neg (by omega) (Ev.now _)
  | succ d ih =>
    intro i left hi h0 h1
    have h2 : i < xs.length := by omega
    have hr : rd_T74 xs (i : Int) = xs[i] := by simp [rd_T74, List.getD, h2]
    have hm := hs _ (List.getElem_mem h2)
    unfold maxLen at hm
    by_cases hb : left - (xs[i].f0.size : Int) < 0
    · refine ⟨-1, ?_, .inl (by omega)⟩
      refine Ev.step (fun k => by rw [laws_szHintS.l0]) ?_
      refine Ev.pos (by omega) (Ev.pos (by omega) ?_)
      rw [hr]
      refine Ev.let_ (v := -1) ?_ (Ev.pos (by omega) (Ev.now _))
      unfold laws_szHint.f
      rw [w64 (by omega) (by omega), if_pos hb]
    · obtain ⟨r, he, hr2⟩ := ih (i + 1) (left - (xs[i].f0.size : Int)) (by omega) (by omega) (by omega)
      refine ⟨r, ?_, ?_⟩
      · refine Ev.step (fun k => by rw [laws_szHintS.l0]) ?_
        refine Ev.pos (by omega) (Ev.pos (by omega) ?_)
        rw [hr]
        refine Ev.let_ (v := left - (xs[i].f0.size : Int)) ?_ (Ev.neg hb ?_)
        · unfold laws_szHint.f
          rw [w64 (by omega) (by omega), if_neg hb]
        · rw [w64n (by omega)]
          exact he
      · rcases hr2 with h | h
        · exact .inl h
        · refine .inr ?_
          rw [List.drop_eq_getElem_cons h2]
          intro x hx
          rcases List.mem_cons.mp hx with rfl | hx
          · omega
          · exact h x hx
theorem szHintS_ev (xs : List S74) (hn : xs.length ≤ maxLen) (hs : ∀ x ∈ xs, x.f0.size ≤ maxLen) : ∃ r, Ev (fun k => laws_szHintS.f k xs 1048576) r ∧ (r < 0 ∨ xs.length ≤ 1048576 ∧ ∀ x ∈ xs, x.f0.size ≤ 1048576) := by
  unfold maxLen at hn
  by_cases h : (1048576 : Int) - (xs.length : Int) < 0
  · refine ⟨-1, ?_, .inl (by omega)⟩
    unfold laws_szHintS.f
    rw [w64 (by omega) (by omega)]
    exact Ev.pos h (Ev.now _)
  · obtain ⟨r, he, hr⟩ := szHintS_l0 xs (by omega) hs xs.length 0 (1048576 - (xs.length : Int)) (by omega) (by omega) (by omega)
    refine ⟨r, ?_, ?_⟩
    · unfold laws_szHintS.f
      rw [w64 (by omega) (by omega)]
      exact Ev.neg h he
    · rcases hr with h | h
      · exact .inl h
      · exact .inr ⟨by omega, by simpa using h⟩

end Go.Proofs.Ythikcnbjfnkglab.Pure
