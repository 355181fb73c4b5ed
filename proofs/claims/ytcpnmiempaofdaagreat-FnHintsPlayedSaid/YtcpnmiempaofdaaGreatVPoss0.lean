/- Chapter 6: the hints that are possible: the program's table and the reference's name the same. -/
import Derived.Test.YtcpnmiempaofdaaGreatCx0
import Derived.Test.YtcpnmiempaofdaaGreatCx9
import Derived.Test.YtcpnmiempaofdaaGreatHintO2
namespace Go.Proofs.YtcpnmiempaofdaaGreat.Pure
open Go.RowKit Go.Proofs.YtcpnmiempaofdaaGreat.C Go.Proofs.YtcpnmiempaofdaaGreatW.PrintWords Go.Proofs.YtcpnmiempaofdaaGreatW.PrintLast Go.Proofs.YtcpnmiempaofdaaGreatW.PrintMore
set_option linter.unusedVariables false

/-! the program's table of met hints -/
def ixI (g s : ByteArray) : Nat := (hintV g s).1.toNat * 7 + (hintV g s).2.toNat
def okC (w : Nat) (l : List ByteArray) : Prop := ∀ c ∈ l, digsB c ∧ c.size = w
theorem phMet_ev (w : Nat) (hw : w ≤ 6) (g s : ByteArray) (hg : digsB g ∧ g.size = w) (hs : digsB s ∧ s.size = w) (m : List Bool) : Ev (fun K => phMet K g m s) (m.set (ixI g s) true) := by
  have hb := hint_bd g s hg.1
  rw [hg.2] at hb
  unfold phMet
  exact Ev.bind (implHint_ev g s hg.1 hs.1 (by rw [hg.2, hs.2])) (Ev.pos (by omega) (Ev.now _))
def setI (g : ByteArray) (m : List Bool) (s : ByteArray) : List Bool := m.set (ixI g s) true
theorem phIn_ev (w : Nat) (hw : w ≤ 6) (g : ByteArray) (hg : digsB g ∧ g.size = w) : ∀ (l : List ByteArray) (m : List Bool), okC w l → Ev (fun K => foldO (phMet K g) m l) (l.foldl (setI g) m)
  | [], m, _ => Ev.now m
  | s :: l, m, h => by
    refine Ev.congr (fun K => by rw [foldO]) (Ev.bind (phMet_ev w hw g s hg (h s (by simp)) m) ?_)
    exact phIn_ev w hw g hg l _ (fun c hc => h c (by simp [hc]))
theorem ph_ev (w : Nat) (hw : w ≤ 6) (codes : List ByteArray) (hc : okC w codes) : ∀ (l : List ByteArray) (m : List Bool), okC w l → Ev (fun K => foldO (phIn K codes) m l) (l.foldl (fun m g => codes.foldl (setI g) m) m)
  | [], m, _ => Ev.now m
  | g :: l, m, h => by
    have h1 : Ev (fun K => phIn K codes m g) (codes.foldl (setI g) m) := by unfold phIn; exact phIn_ev w hw g (h g (by simp)) codes m hc
    refine Ev.congr (fun K => by rw [foldO]) (Ev.bind h1 ?_)
    exact ph_ev w hw codes hc l _ (fun c hcc => h c (by simp [hcc]))
theorem setI_get (g : ByteArray) (q : Nat) : ∀ (l : List ByteArray) (m : List Bool), q < m.length → (l.foldl (setI g) m).length = m.length ∧ (l.foldl (setI g) m).getD q false = (m.getD q false || l.any (fun s => decide (ixI g s = q)))
  | [], m, _ => ⟨rfl, by simp⟩
  | s :: l, m, h => by
    have hl : (setI g m s).length = m.length := by simp [setI]
    obtain ⟨h1, h2⟩ := setI_get g q l (setI g m s) (by rw [hl]; exact h)
    refine ⟨by rw [List.foldl_cons, h1, hl], ?_⟩
    rw [List.foldl_cons, h2, List.any_cons]
    have : (setI g m s).getD q false = (m.getD q false || decide (ixI g s = q)) := by
      unfold setI
      simp only [List.getD_eq_getElem?_getD, List.getElem?_set]
      by_cases e : ixI g s = q
      · simp [e, h]
      · simp [e]
    rw [this, Bool.or_assoc]
theorem setA_get (codes : List ByteArray) (q : Nat) : ∀ (l : List ByteArray) (m : List Bool), q < m.length →
    (l.foldl (fun m g => codes.foldl (setI g) m) m).length = m.length ∧ (l.foldl (fun m g => codes.foldl (setI g) m) m).getD q false = (m.getD q false || l.any (fun g => codes.any (fun s => decide (ixI g s = q))))
  | [], m, _ => ⟨rfl, by simp⟩
  | g :: l, m, h => by
    obtain ⟨a1, a2⟩ := setI_get g q codes m h
    obtain ⟨h1, h2⟩ := setA_get codes q l (codes.foldl (setI g) m) (by rw [a1]; exact h)
    refine ⟨by rw [List.foldl_cons, h1, a1], ?_⟩
    rw [List.foldl_cons, h2, a2, List.any_cons, Bool.or_assoc]

/-! both tables name the same hints -/
def metP (codes : List ByteArray) (p o : Nat) : Bool := codes.any (fun g => codes.any (fun s => decide ((hintV g s).1 = (p : Int) ∧ (hintV g s).2 = (o : Int))))
theorem metP_iff (codes : List ByteArray) (p o : Nat) : metP codes p o = true ↔ ∃ g ∈ codes, ∃ s ∈ codes, (hintV g s).1 = (p : Int) ∧ (hintV g s).2 = (o : Int) := by
  unfold metP
  simp [List.any_eq_true]
theorem divmod_of (N a b q : Nat) (hb : b < N) (h : a * N + b = q) : a = q / N ∧ b = q % N := by
  subst h
  constructor
  · rw [Nat.mul_comm, Nat.mul_add_div (by omega), Nat.div_eq_of_lt hb, Nat.add_zero]
  · rw [Nat.mul_comm, Nat.mul_add_mod, Nat.mod_eq_of_lt hb]
theorem ixI_iff (w : Nat) (hw : w ≤ 6) (g s : ByteArray) (hg : digsB g ∧ g.size = w) (q : Nat) : ixI g s = q ↔ (hintV g s).1 = ((q / 7 : Nat) : Int) ∧ (hintV g s).2 = ((q % 7 : Nat) : Int) := by
  have hb := hint_bd g s hg.1
  rw [hg.2] at hb
  unfold ixI
  constructor
  · intro h
    have := divmod_of 7 _ _ q (by omega) h
    omega
  · rintro ⟨h1, h2⟩
    have := Nat.div_add_mod q 7
    omega
theorem ixW_iff (w : Nat) (hw : w ≤ 6) (g s : ByteArray) (hg : digsB g ∧ g.size = w) (q : Nat) : ixW w g s = q ↔ (hintV g s).1 = ((q / (w + 1) : Nat) : Int) ∧ (hintV g s).2 = ((q % (w + 1) : Nat) : Int) := by
  have hb := hint_bd g s hg.1
  rw [hg.2] at hb
  obtain ⟨a, ha⟩ := Int.eq_ofNat_of_zero_le hb.1
  obtain ⟨b, hb2⟩ := Int.eq_ofNat_of_zero_le hb.2.1
  have e : ixW w g s = a * (w + 1) + b := by
    unfold ixW
    rw [ha, hb2]
    have : ((a : Int) * ((w : Int) + 1) + (b : Int)) = ((a * (w + 1) + b : Nat) : Int) := by simp
    rw [this, Int.toNat_natCast]
  rw [e, ha, hb2]
  constructor
  · intro h
    have := divmod_of (w + 1) a b q (by omega) h
    exact ⟨by rw [this.1], by rw [this.2]⟩
  · rintro ⟨h1, h2⟩
    have h1' := Int.ofNat_inj.mp h1
    have h2' := Int.ofNat_inj.mp h2
    rw [h1', h2', Nat.mul_comm]
    exact Nat.div_add_mod q (w + 1)
def rowsN (P : Nat → Nat → Bool) (K N : Nat) : List (List Int) := (List.range K).flatMap (fun p => ((List.range N).filter (P p)).map (fun o => [((p : Nat) : Int), ((o : Nat) : Int)]))
theorem rows_flat (P : Nat → Nat → Bool) (N : Nat) (hN : 0 < N) : ∀ K : Nat, ((List.range (K * N)).filter (fun q => P (q / N) (q % N))).map (fun q => [((q / N : Nat) : Int), ((q % N : Nat) : Int)]) = rowsN P K N
  | 0 => by simp [rowsN]
  | K + 1 => by
    rw [Nat.add_mul, Nat.one_mul, List.range_add, List.filter_append, List.map_append, rows_flat P N hN K]
    unfold rowsN
    rw [List.range_succ, List.flatMap_append]
    congr 1
    rw [List.filter_map, List.map_map, List.flatMap_singleton]
    have h1 : (List.range N).filter ((fun q => P (q / N) (q % N)) ∘ fun x => K * N + x) = (List.range N).filter (P K) := by
      apply List.filter_congr
      intro o ho
      have ho := List.mem_range.mp ho
      have := divmod_of N K o (K * N + o) ho rfl
      simp only [Function.comp]
      rw [← this.1, ← this.2]
    rw [h1]
    apply List.map_congr_left
    intro o ho
    have ho := List.mem_range.mp (List.mem_filter.mp ho).1
    have := divmod_of N K o (K * N + o) ho rfl
    simp only [Function.comp]
    rw [← this.1, ← this.2]
theorem filter_none {α : Type} (p : α → Bool) (l : List α) (h : ∀ x ∈ l, p x = false) : l.filter p = [] := by
  rw [List.filter_eq_nil_iff]
  intro x hx
  rw [h x hx]
  decide
theorem rows_more (P : Nat → Nat → Bool) (n r : Nat) (hP : ∀ p o, P p o = true → p < n ∧ o < n) : rowsN P (n + r) (n + r) = rowsN P n n := by
  have hf : ∀ p o, ¬ (p < n ∧ o < n) → P p o = false := fun p o h => by
    cases e : P p o with
    | false => rfl
    | true => exact absurd (hP p o e) h
  unfold rowsN
  rw [List.range_add, List.flatMap_append]
  have h2 : ((List.range r).map (n + ·)).flatMap (fun p => ((List.range n ++ (List.range r).map (n + ·)).filter (P p)).map (fun o => [((p : Nat) : Int), ((o : Nat) : Int)])) = [] := by
    rw [List.flatMap_eq_nil_iff]
    intro p hp
    obtain ⟨i, _, rfl⟩ := List.mem_map.mp hp
    rw [filter_none _ _ (fun o _ => hf _ _ (by omega)), List.map_nil]
  rw [h2, List.append_nil]
  have key : ∀ l : List Nat, l.flatMap (fun p => ((List.range n ++ (List.range r).map (n + ·)).filter (P p)).map (fun o => [((p : Nat) : Int), ((o : Nat) : Int)])) = l.flatMap (fun p => ((List.range n).filter (P p)).map (fun o => [((p : Nat) : Int), ((o : Nat) : Int)])) := by
    intro l
    congr 1
    funext p
    rw [List.filter_append, filter_none (P p) ((List.range r).map (n + ·)) (fun o ho => by
      obtain ⟨i, _, rfl⟩ := List.mem_map.mp ho
      exact hf _ _ (by omega)), List.append_nil]
  exact key _
theorem metP_small (w : Nat) (codes : List ByteArray) (hc : okC w codes) (p o : Nat) (h : metP codes p o = true) : p < w + 1 ∧ o < w + 1 := by
  obtain ⟨g, hg, s, _, h1, h2⟩ := (metP_iff codes p o).mp h
  have hb := hint_bd g s (hc g hg).1
  rw [(hc g hg).2] at hb
  omega
theorem rep_get (n q : Nat) : (List.replicate n false).getD q false = false := by
  rw [List.getD_eq_getElem?_getD, List.getElem?_replicate]
  split <;> rfl
theorem rows_same (w : Nat) (hw : w ≤ 6) (codes : List ByteArray) (hc : okC w codes) :
    phRows (codes.foldl (fun m g => codes.foldl (setI g) m) (List.replicate 49 false)) 49 = possL w (sumF w codes codes) ((w + 1) * (w + 1)) := by
  have e1 : phRows (codes.foldl (fun m g => codes.foldl (setI g) m) (List.replicate 49 false)) 49 = rowsN (metP codes) 7 7 := by
    rw [← rows_flat (metP codes) 7 (by omega) 7]
    unfold phRows
    congr 1
    apply List.filter_congr
    intro q hq
    have hq : q < 49 := List.mem_range.mp hq
    rw [(setA_get codes q codes (List.replicate 49 false) (by simpa using hq)).2]
    have h0 := rep_get 49 q
    rw [h0, Bool.false_or]
    unfold metP
    rw [Bool.eq_iff_iff, List.any_eq_true, List.any_eq_true]
    constructor
    · rintro ⟨g, hg, h⟩
      refine ⟨g, hg, ?_⟩
      rw [List.any_eq_true] at h ⊢
      obtain ⟨s, hs, h⟩ := h
      exact ⟨s, hs, decide_eq_true ((ixI_iff w hw g s (hc g hg) q).mp (of_decide_eq_true h))⟩
    · rintro ⟨g, hg, h⟩
      refine ⟨g, hg, ?_⟩
      rw [List.any_eq_true] at h ⊢
      obtain ⟨s, hs, h⟩ := h
      exact ⟨s, hs, decide_eq_true ((ixI_iff w hw g s (hc g hg) q).mpr (of_decide_eq_true h))⟩
  have e2 : possL w (sumF w codes codes) ((w + 1) * (w + 1)) = rowsN (metP codes) (w + 1) (w + 1) := by
    rw [← rows_flat (metP codes) (w + 1) (by omega) (w + 1)]
    unfold possL
    congr 1
    apply List.filter_congr
    intro q _
    rw [Bool.eq_iff_iff, decide_eq_true_iff, sumF_pos, metP_iff]
    constructor
    · rintro ⟨g, hg, s, hs, h⟩
      exact ⟨g, hg, s, hs, (ixW_iff w hw g s (hc g hg) q).mp h⟩
    · rintro ⟨g, hg, s, hs, h⟩
      exact ⟨g, hg, s, hs, (ixW_iff w hw g s (hc g hg) q).mpr h⟩
  rw [e1, e2]
  have := rows_more (metP codes) (w + 1) (6 - w) (metP_small w codes hc)
  rw [show w + 1 + (6 - w) = 7 by omega] at this
  exact this
end Go.Proofs.YtcpnmiempaofdaaGreat.Pure
