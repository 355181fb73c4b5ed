/- Chapter 6: the marks that the laws write into hints. -/
import Derived.Test.YthikcnbjfnkglabTx0
import Derived.Test.YthikcnbjfnkglabTx9
import Derived.Test.YthikcnbjfnkglabHintE
namespace Go.Proofs.Ythikcnbjfnkglab.Pure
open Go.RowKit Go.Proofs.Ythikcnbjfnkglab.T Go.Proofs.YthikcnbjfnkglabW.PrintWords Go.Proofs.YthikcnbjfnkglabW.PrintLast Go.Proofs.YthikcnbjfnkglabW.PrintMore
set_option linter.unusedVariables false

theorem markText_l0 : ∀ (n : Nat) (x : ByteArray), n ≤ 1000000000 → x.size + n ≤ 1000000000000 → ∃ t, Ev (fun K => laws_markText.l0 K (n : Int) x) t := by
  intro n
  induction n using Nat.strongRecOn with
  | ind n ih =>
    intro x hn hx
    by_cases h0 : n = 0
    · subst h0
      refine ⟨(⟨#[109]⟩ : ByteArray) ++ x, ?_⟩
      refine Ev.step (fun k => by rw [laws_markText.l0]) ?_
      exact Ev.neg (by omega) (Ev.pos (by omega) (Ev.now _))
    · have hd : n / 10 < n := Nat.div_lt_self (by omega) (by omega)
      have e1 : Int.tdiv (n : Int) 10 = ((n / 10 : Nat) : Int) := by rw [Int.tdiv_eq_ediv_of_nonneg (by omega)]; omega
      obtain ⟨t, ht⟩ := ih (n / 10) hd (strOfNums [(wrap64 (48 + (Int.tmod (n : Int) 10))) % 256] ++ x) (by omega) (by
        have : (strOfNums [(wrap64 (48 + (Int.tmod (n : Int) 10))) % 256] ++ x).size = 1 + x.size := by simp [ByteArray.size_append, strOfNums_size]
        omega)
      refine ⟨t, ?_⟩
      refine Ev.step (fun k => by rw [laws_markText.l0]) ?_
      refine Ev.pos (by omega) (Ev.let_ rfl (Ev.pos (by rw [strOfNums_size]; simp only [List.length_cons, List.length_nil]; omega) ?_))
      rw [e1, w64 (x := ((n / 10 : Nat) : Int)) (by omega) (by omega)]
      exact ht
theorem markText_ex (n : Nat) (hn : n ≤ 1000000000) : ∃ t, Ev (fun K => laws_markText.f K (n : Int)) t := by
  by_cases h0 : n = 0
  · subst h0
    refine ⟨(⟨#[109, 48]⟩ : ByteArray), ?_⟩
    unfold laws_markText.f
    exact Ev.pos (by omega) (Ev.now _)
  · obtain ⟨t, ht⟩ := markText_l0 n (⟨#[]⟩ : ByteArray) hn (by show 0 + n ≤ _; omega)
    refine ⟨t, ?_⟩
    unfold laws_markText.f
    exact Ev.neg (by omega) ht
/-- The mark n. -/
noncomputable def markT (n : Nat) : ByteArray := if h : n ≤ 1000000000 then Classical.choose (markText_ex n h) else ByteArray.empty
theorem markT_ev (n : Nat) (hn : n ≤ 1000000000) : Ev (fun K => laws_markText.f K (n : Int)) (markT n) := by
  unfold markT
  rw [dif_pos hn]
  exact Classical.choose_spec (markText_ex n hn)
noncomputable def marksT (n : Nat) : List ByteArray := (List.range n).map (fun (i : Nat) => markT (1 + i))
theorem markHintS_l0 (n : Nat) (hn : n ≤ 10000000) : ∀ (d i : Nat) (xs : List S47), i + d = n → xs.length = n → ∃ ys, Ev (fun k => laws_markHintS.l0 k xs ((1 + 3 * i : Nat) : Int) (i : Int)) (((1 + 3 * n : Nat) : Int), ys) := by
  intro d
  induction d with
  | zero =>
    intro i xs hi hl
    refine ⟨xs, ?_⟩
    refine Ev.step (fun k => by rw [laws_markHintS.l0]) ?_
    refine Ev.neg (by omega) (Ev.val (Ev.now _) (by rw [show i = n by omega]))
  | succ d ih =>
    intro i xs hi hl
    have e : (1 + 3 * i + 1 + 1 + 1) = 1 + 3 * (i + 1) := by omega
    have step : ∀ ys : List S47, ys.length = n → ∃ zs, Ev (fun k => laws_markHintS.l0 k ys (wrap64 ((wrap64 ((wrap64 (((1 + 3 * i : Nat) : Int) + 1)) + 1)) + 1)) (wrap64 ((i : Int) + 1))) (((1 + 3 * n : Nat) : Int), zs) := by
      intro ys hy
      rw [w64n (i := 1 + 3 * i) (by omega), w64n (i := 1 + 3 * i + 1) (by omega), w64n (i := 1 + 3 * i + 1 + 1) (by omega), w64n (i := i) (by omega), e]
      exact ih (i + 1) ys (by omega) hy
    obtain ⟨ys, h⟩ := step (((xs.set ((i : Int)).toNat (⟨markT (1 + 3 * i), (rd_T47 xs i).f1, (rd_T47 xs i).f2⟩ : S47)).set ((i : Int)).toNat (⟨(rd_T47 (xs.set ((i : Int)).toNat (⟨markT (1 + 3 * i), (rd_T47 xs i).f1, (rd_T47 xs i).f2⟩ : S47)) i).f0, wrap64 (((1 + 3 * i : Nat) : Int) + 1), (rd_T47 (xs.set ((i : Int)).toNat (⟨markT (1 + 3 * i), (rd_T47 xs i).f1, (rd_T47 xs i).f2⟩ : S47)) i).f2⟩ : S47)).set ((i : Int)).toNat _) (by simp [hl])
    refine ⟨ys, ?_⟩
    refine Ev.step (fun k => by rw [laws_markHintS.l0]) ?_
    exact Ev.pos (by omega) (Ev.bind (markT_ev (1 + 3 * i) (by omega)) (Ev.pos (by omega) (Ev.let_ rfl (Ev.let_ rfl h))))
theorem markHintS_ev (xs : List S47) (hn : xs.length ≤ 10000000) : ∃ ys, Ev (fun k => laws_markHintS.f k xs 1) (((1 + 3 * xs.length : Nat) : Int), ys) := by
  unfold laws_markHintS.f
  exact markHintS_l0 xs.length hn xs.length 0 xs (by omega) rfl
end Go.Proofs.Ythikcnbjfnkglab.Pure
