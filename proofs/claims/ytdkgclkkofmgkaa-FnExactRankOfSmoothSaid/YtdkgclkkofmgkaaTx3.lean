-- Printed by hp.py, a program of this session: a machine's side of laws, out of the translation; Lean checks it.
import Derived.Test.YtdkgclkkofmgkaaTx0
import Derived.Test.YtdkgclkkofmgkaaTx2
namespace Go.Proofs.Ytdkgclkkofmgkaa.T
open Go.RowKit Go.Proofs.YtdkgclkkofmgkaaW.PrintWords Go.Proofs.YtdkgclkkofmgkaaW.PrintLast Go.Proofs.YtdkgclkkofmgkaaW.PrintMore
attribute [local go_sem] max2_int min2_int max_two min_two max_three min_three max_four min_four   -- for this text's walks alone
set_option linter.unusedVariables false
set_option linter.unusedSimpArgs false

/-! ### slices_Repeat_int_int: function 70 -/
def slices_Repeat_int_int.f (l0 : List Int) (a1 : Int) : Option (List Int) := if l0.length = 1 ∧ 1 ≤ a1 ∧ a1 ≤ 9 then some (List.replicate a1.toNat (rd l0 0)) else none
theorem repeat_mul : ∀ n : Fin 10, bits_Mul.f 1 (n.val : Int) = some (0, (n.val : Int)) := by decide +kernel
theorem R_fill {e base b n c : Nat} {ok : Nat → Prop} : ∀ (m i : Nat) (W : World) (l : List Int) (x : Int), Kd.R (Kd.int .i64) e W base ok (.slice (some ⟨b, 0, none⟩) n c) l → i + m ≤ n →
    ∃ l', Kd.R (Kd.int .i64) e (W.setCells b i (List.replicate m (.int .i64 x))) base ok (.slice (some ⟨b, 0, none⟩) n c) l' ∧ l'.take (i + m) = l.take i ++ List.replicate m x
  | 0, i, _, l, _, h, _ => ⟨l, h, by simp⟩
  | m + 1, i, W, l, x, h, hi => by
    have hn := (Kd.R_reads' h).1
    have h1 := Kd.R_putn (enc := Value.int .i64) h (i : Int) x
    rw [Int.toNat_natCast] at h1
    obtain ⟨l', h2, h3⟩ := R_fill m (i + 1) _ _ x h1 (by omega)
    refine ⟨l', h2, ?_⟩
    rw [show i + (m + 1) = i + 1 + m by omega, h3, List.take_add_one, List.take_set_of_le (Nat.le_refl _), List.getElem?_set_self (by omega), List.replicate_succ, List.append_assoc]
    rfl
theorem below_fill {N : Nat} {w : World} (b : Nat) (hb : w.heap.size ≤ b) : ∀ (m i : Nat) (W : World) (x : Value), Below w.heap.size w W → Below w.heap.size w (W.setCells b i (List.replicate m x))
  | 0, _, _, _, h => h
  | m + 1, i, W, x, h => below_fill (N := N) b hb m (i + 1) _ x (below_set h hb)
set_option maxHeartbeats 4000000 in
set_option maxRecDepth 100000 in
theorem slices_Repeat_int_int.calls (A0 : Option Addr) (c0 : Nat) (l0 : List Int) (a1 : Int) (r : List Int) (w : World) (hr0 : Kd.C (Kd.int .i64) w A0 l0.length l0) (hc0 : l0.length ≤ c0) (h : slices_Repeat_int_int.f l0 a1 = some r) :
    Calls Try.prog 70 #[.slice A0 l0.length c0, .int .i64 a1] w fun e w' => ∃ v0_ : Value, e = .returned (v0_) ∧ Kd.R (Kd.int .i64) 3 w' w.heap.size (fun _ => True) v0_ r ∧ Below w.heap.size w w' := by
  unfold slices_Repeat_int_int.f at h
  have hd : l0.length = 1 ∧ 1 ≤ a1 ∧ a1 ≤ 9 := by
    by_cases hl : l0.length = 1 ∧ 1 ≤ a1 ∧ a1 ≤ 9
    · exact hl
    · rw [if_neg hl] at h; exact absurd h (by simp)
  rw [if_pos hd] at h
  obtain rfl := Option.some.inj h
  clear h
  obtain ⟨hl, h1, h9⟩ := hd
  obtain ⟨n, rfl⟩ := Int.eq_ofNat_of_zero_le (show 0 ≤ a1 by omega)
  obtain ⟨ad, e1, hx0⟩ := Kd.at_int hr0 0 (by omega) (by omega)
  subst e1
  generalize rd l0 0 = x at hx0
  rw [hl] at hr0 hc0 ⊢
  clear hr0
  have hn : 1 ≤ n ∧ n ≤ 9 := by omega
  have hw1 : IntKind.u64.wrap 1 = 1 := by decide
  have hw2 : IntKind.u64.wrap (n : Int) = (n : Int) := by
    have : ∀ m : Fin 10, IntKind.u64.wrap (m.val : Int) = (m.val : Int) := by decide +kernel
    exact this ⟨n, by omega⟩
  have hw3 : wrap64 (n : Int) = (n : Int) := by unfold wrap64; omega
  have hmul : ∀ w, Calls Try.prog 74 #[.int .u64 1, .int .u64 (n : Int)] w fun e w' => e = .returned (.tuple #[.int .u64 0, .int .u64 (n : Int)]) ∧ Drawn0 w w' := fun w => bits_Mul.calls 1 (n : Int) 0 (n : Int) w (repeat_mul ⟨n, by omega⟩)
  have hneg : ((n : Int) < 0) = False := eq_false (by omega)
  have hbig : ((9223372036854775807 : Int) < (n : Int)) = False := eq_false (by omega)
  have hbig2 : ((n : Int) > 9223372036854775807) = False := eq_false (by omega)
  have HN := Aside0.mk hn
  clear hn h1 h9
  simp only [Int.toNat_natCast]
  go_enter Try.func70, Try.ntmps70
  have hin : (Try.prog.info? 3).map (·.size) = some 1 := by kernel_rfl
  have hin3 : (Try.prog.info? 3).map (fun i => (i.zero, i.size, i.bytes)) = some (some (.int .i64 0), 1, 8) := by kernel_rfl
  go_wp2_with (first | (go_at_call 74; refine (hmul _).mono ?_; rintro e w' ⟨rfl, ⟨nd, rfl⟩⟩) | ((with_reducible refine gate_dst (N := 30) rfl ?_); refine Kd.R_make (Kd.int .i64) (w0 := w) w.heap.size 3 rfl (N := 30) rfl 47 _ _ rfl (n : Int) (congrArg (Value.int .i64) hw3) (congrArg (Value.int .i64) hw3) Try.underlying47 (.int .i64 0) 8 hin3 rfl (by decide) (by omega) 0 (ok := fun _ => True) (okp := fun _ => True) rfl (fun _ hk => hk) trivial (by omega) (by have := HN.out; omega) (pw_below_drewN (Below.refl _ _) _) (Nat.le_refl _) ?_; intro v1 w1 ho hb hg_ hnew_; have HO := Aside0.mk ho; have HB := Aside0.mk hb; clear ho hb hg_ hnew_))
  obtain ⟨b, cp, rfl, hb1, hb2, _⟩ := Kd.R_form HO.out (by simp; have := HN.out; omega)
  rw [Int.toNat_natCast, List.length_replicate] at *
  have HO1 := HO
  clear HO
  have hx1 := pw_cell_below HB.out hx0
  rw [show ((0 : Int)).toNat = 0 from rfl] at hx1
  have hin1 : (Try.prog.info? 3).map (·.size) = some 1 := hin
  obtain ⟨w1, hw1e⟩ : ∃ w, w = w1 := ⟨_, rfl⟩
  subst hw1e
  have hcells : ∀ (W : World) (l : List Int) (base e : Nat) (ok : Nat → Prop), Kd.R (Kd.int .i64) e W base ok (.slice (some ⟨b, 0, none⟩) n cp) l → ∀ j, j < n → (W.cell? ⟨b, j, none⟩).isSome = true ∧ W.frozen? ⟨b, j, none⟩ = false := by
    intro W l base e ok h j hj
    obtain ⟨h1, h2⟩ := Kd.R_celln (0 : Int) h (j : Int) (by omega) (by omega)
    rw [Int.toNat_natCast] at h1 h2
    exact ⟨by rw [h1]; rfl, h2⟩
  have hcp0 : ∀ ty, (Builtin.copy_ #[47, 47] ty #[.slice (some ⟨b, 0, none⟩) n cp, .slice (some ad) 1 c0]).run Try.prog w1 = .ok (.int .i64 1) (w1.setCells b 0 (List.replicate 1 (.int .i64 x))) := by
    intro ty
    exact run_copy_cells w1 _ _ ty _ b 0 n cp ad 1 c0 (List.replicate 1 (.int .i64 x)) Try.underlying47 hin1 (by have := HN.out; simp [Nat.min_def]; omega)
      (fun j v hj => by
        have : j = 0 := by
          by_cases h : j = 0
          · exact h
          · rw [List.getElem?_eq_none (by simp; omega)] at hj; exact absurd hj (by simp)
        subst this
        obtain rfl : Value.int .i64 x = v := by simpa using hj
        exact hx1)
      (fun j hj => by rw [Nat.zero_add]; exact (hcells w1 _ _ _ _ HO1.out j (by have := HN.out; simp at hj; omega)).1) (fun j hj => by rw [Nat.zero_add]; exact (hcells w1 _ _ _ _ HO1.out j (by have := HN.out; simp at hj; omega)).2) (fun v hv => by rw [List.mem_replicate] at hv; rw [hv.2]; rfl)
  obtain ⟨l1, hR1, hl1⟩ := R_fill 1 0 w1 _ x HO1.out (by have := HN.out; omega)
  have HR1 := Aside0.mk hR1
  have HL1 := Aside0.mk hl1
  have HB1 := Aside0.mk (below_fill (N := 0) b hb1 1 0 w1 (.int .i64 x) HB.out)
  obtain ⟨W1, hW1⟩ : ∃ W1, W1 = w1.setCells b 0 (List.replicate 1 (.int .i64 x)) := ⟨_, rfl⟩
  rw [← hW1] at hcp0 HR1 HB1
  have HCells := Aside0.mk hcells
  have HBW := Aside0.mk hb1
  clear hW1 hR1 hl1 HB hx1 hx0 HO1 hcells hb1 hb2
  rw [hcp0]
  go_simp
  go_wp2
  clear hcp0
  go_loopg [8] n (fun gg v8 wr => ∃ (k : Nat) (l : List Int), v8 = .int .i64 (k : Int) ∧ 1 ≤ k ∧ k ≤ n ∧ n - k ≤ gg ∧ Aside0 (Kd.R (Kd.int .i64) 3 wr w.heap.size (fun _ => True) (.slice (some ⟨b, 0, none⟩) n cp) l) ∧ Aside0 (l.take k = List.replicate k x) ∧ Aside0 (Below w.heap.size w wr))
  case atStart => exact ⟨1, l1, rfl, by omega, by have := HN.out; omega, by have := HN.out; omega, HR1, ⟨by have := HL1.out; simpa using this⟩, HB1⟩
  case round =>
    clear HR1 HL1 HB1
    obtain ⟨k, l, rfl, hk1, hk2, hg, HR, HL, HB⟩ := hrel
    have hnc := (Kd.R_reads' HR.out).2.1
    have hnl := (Kd.R_reads' HR.out).1
    have HNL := Aside0.mk hnl
    clear hnl
    by_cases hlt : k < n
    · have hltz : (k : Int) < (n : Int) := by omega
      obtain ⟨m, hm⟩ : ∃ m, m = Nat.min k (n - k) := ⟨_, rfl⟩
      have hm1 : 1 ≤ m ∧ m ≤ k ∧ m ≤ n - k := by rw [hm]; exact ⟨Nat.le_min.mpr ⟨by omega, by omega⟩, Nat.min_le_left _ _, Nat.min_le_right _ _⟩
      have HM := Aside0.mk hm
      clear hm
      obtain ⟨hm1, hm2, hm3⟩ := hm1
      have hRd := Kd.R_drew HR.out
      have hcp : ∀ ty, (Builtin.copy_ #[47, 47] ty #[.slice (some ⟨b, k, none⟩) (n - k) (cp - k), .slice (some ⟨b, 0, none⟩) k cp]).run Try.prog wr.drew = .ok (.int .i64 (m : Int)) (wr.drew.setCells b k (List.replicate m (.int .i64 x))) := by
        intro ty
        have := run_copy_cells (P := Try.prog) wr.drew 47 47 ty _ b k (n - k) (cp - k) ⟨b, 0, none⟩ k cp (List.replicate m (.int .i64 x)) Try.underlying47 hin1 (by rw [List.length_replicate]; exact HM.out)
          (fun j v hj => by
            have hjm : j < m := by
              by_cases h : j < m
              · exact h
              · rw [List.getElem?_eq_none (by simp; omega)] at hj; exact absurd hj (by simp)
            rw [List.getElem?_replicate, if_pos hjm] at hj
            obtain rfl := Option.some.inj hj
            rw [add_at, Nat.zero_add]
            have h1 := (Kd.R_celln (0 : Int) hRd (j : Int) (by omega) (by omega)).1
            rw [Int.toNat_natCast] at h1
            rw [h1]
            have h2 := congrArg (fun z => z[j]?) HL.out
            simp only [List.getElem?_take, show j < k by omega, if_true, List.getElem?_replicate] at h2
            have h3 : rdOf (0 : Int) l (j : Int) = x := by simp [rdOf, List.getD, h2]
            rw [h3])
          (fun j hj => by rw [List.length_replicate] at hj; exact (HCells.out _ _ _ _ _ hRd (k + j) (by omega)).1) (fun j hj => by rw [List.length_replicate] at hj; exact (HCells.out _ _ _ _ _ hRd (k + j) (by omega)).2) (fun v hv => by rw [List.mem_replicate] at hv; rw [hv.2]; rfl)
        rw [List.length_replicate] at this
        exact this
      obtain ⟨l', hR', hl'⟩ := R_fill m k wr.drew l x hRd (by omega)
      have HR' := Aside0.mk hR'
      have HL' := Aside0.mk hl'
      have HB' := Aside0.mk (below_fill (N := 0) b HBW.out m k wr.drew (.int .i64 x) (below_drew HB.out))
      obtain ⟨W2, hW2⟩ : ∃ W2, W2 = wr.drew.setCells b k (List.replicate m (.int .i64 x)) := ⟨_, rfl⟩
      rw [← hW2] at hcp HR' HB'
      clear hW2 hR' hl' hRd
      go_wp2
      go_region
      go_wp2
      go_roundg (n - (k + m))
      case measure => omega
      case rel =>
        refine ⟨k + m, l', by have h9 := HN.out; rw [show wrap64 ((k : Int) + (m : Int)) = ((k + m : Nat) : Int) by unfold wrap64; omega], by omega, by omega, by omega, HR', ⟨?_⟩, HB'⟩
        rw [HL'.out, HL.out, List.replicate_append_replicate]
    · obtain rfl : k = n := by omega
      have hltz : ¬ (k : Int) < (k : Int) := by omega
      have he : l = List.replicate k x := by rw [← HL.out, List.take_of_length_le (by have := HNL.out; omega)]
      have HE := Aside0.mk he
      clear he
      go_wp2
      go_ret
      exact ⟨_, rfl, by rw [← HE.out]; exact HR.out, HB.out⟩

end Go.Proofs.Ytdkgclkkofmgkaa.T
