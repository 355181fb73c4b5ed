-- Printed by hp.py, a program of this session: a machine's side of laws, out of the translation; Lean checks it.
import Derived.Test.YtcpnmiempaofdaaGreatGx0
import Derived.Test.YtcpnmiempaofdaaGreatGx1
import Derived.Test.YtcpnmiempaofdaaGreatGx2
namespace Go.Proofs.YtcpnmiempaofdaaGreat.G
open Go.RowKit Go.Proofs.YtcpnmiempaofdaaGreatW.PrintWords Go.Proofs.YtcpnmiempaofdaaGreatW.PrintLast Go.Proofs.YtcpnmiempaofdaaGreatW.PrintMore
attribute [local go_sem] max2_int min2_int max_two min_two max_three min_three max_four min_four   -- for this text's walks alone
set_option maxHeartbeats 8000000
set_option maxRecDepth 100000
set_option linter.unusedVariables false
set_option linter.unusedSimpArgs false

/-! ### impl_text: function 109 -/
def impl_text.l0 : Nat → List Int → List Int → Int → Int → Option (ByteArray)
 | 0, _, _, _, _ => none
 | k + 1, x3, x7, x8, x9 => if x9 < x8 then (if 0 ≤ x9 then (if x9 < (x7.length : Int) then (if x3.length < 140737488355328 then (impl_text.l0 k (x3 ++ [(wrap64 (48 + (rd x7 x9))) % 256]) x7 x8 (wrap64 (x9 + 1))) else (none)) else (none)) else (none)) else (some (strOfNums x3))
def impl_text.f (k : Nat) (l0 : List Int) : Option (ByteArray) := impl_text.l0 k (([] : List Int)) l0 (l0.length : Int) 0
theorem impl_text.mono_l : ∀ k, (∀ y0 y1 y2 y3, LeO (impl_text.l0 k y0 y1 y2 y3) (impl_text.l0 (k + 1) y0 y1 y2 y3))
 | 0 => fun _ _ _ _ r h => by simp [impl_text.l0] at h
 | k + 1 => by
  have ih0 := impl_text.mono_l k
  ·intro y0 y1 y2 y3
   unfold impl_text.l0
   repeat' first
   | (with_reducible first | exact ih0 _ _ _ _ | exact LeO.refl _ | exact LeO.none _ | refine LeO.ite ?_ ?_ | refine LeO.bind ?_ (fun _ => ?_))
   | exact ih0 _ _ _ _
   | exact LeO.none _
   | refine LeO.ite ?_ ?_
   | refine LeO.bind ?_ (fun _ => ?_)
theorem impl_text.mono : ∀ a0 k, LeO (impl_text.f k a0) (impl_text.f (k + 1) a0) := by
 intro a0 k
 have ih0 := impl_text.mono_l k
 unfold impl_text.f
 repeat' first
   | (with_reducible first | exact ih0 _ _ _ _ | exact LeO.refl _ | exact LeO.none _ | refine LeO.ite ?_ ?_ | refine LeO.bind ?_ (fun _ => ?_))
   | exact ih0 _ _ _ _
   | exact LeO.none _
   | refine LeO.ite ?_ ?_
   | refine LeO.bind ?_ (fun _ => ?_)
theorem impl_text.calls (k : Nat) (A0 : Option Addr) (c0 : Nat) (l0 : List Int) (r : ByteArray) (w : World) (hr0 : Kd.C (Kd.int .i64) w A0 l0.length l0) (hc0 : l0.length ≤ c0) (h : impl_text.f k l0 = some r) :
  Calls Tryz.prog 109 #[.slice A0 l0.length c0] w fun e w' => e = .returned (.string r) ∧ Below w.heap.size w w' := by
 have HR0 := Aside0.mk hr0
 have HC0 := Aside0.mk hc0
 clear hr0 hc0
 have HB := Aside0.mk (Below.refl w.heap.size w)
 have H := h
 unfold impl_text.f at H
 clear h
 obtain ⟨y136, hy136⟩ : ∃ y_ : List Int, y_ = (([] : List Int)) := ⟨_, rfl⟩
 replace H : (impl_text.l0 k y136 l0 (l0.length : Int) 0) = some r := hZ hy136 H
 have Ny136 := Aside0.mk hy136
 clear hy136
 have H' := Aside0.mk H
 clear H
 go_enter Tryz.func109, Tryz.ntmps109
 go_wp2_with (first | ((with_reducible refine gate_dst (N := 6) rfl ?_); refine Kd.R_lit (Kd.int .u8) _ 5 ?hg (N := 6) ?hd (xs := ([] : List Int)) (inner := []) (ok := fun _ => True) (okp := fun _ => True) ?hr ?hp (fun _ hk => hk) trivial (Below.refl _ _) (Nat.le_refl _) (by simp) ?_; (case hd => rfl); (case hg => rfl); (case hr => first | (go_simp; done) | (go_simp; rfl)); (case hp => exact (Reps.none _ _)); intro v137 w2 ho3 hb hg_ hnew_; clear hg_ hnew_; (first | rw [← Ny136.out] at ho3 | (simp only [Int.reduceToNat] at ho3; rw [← Ny136.out] at ho3)); have HO138 := Aside0.mk (Kd.R_lower ho3 (below_size bB)); replace HB := Aside0.mk (below_step bB hb); clear hb ho3))
 go_loopg [3, 9] k (fun kq v3 v9 w' => ∃ (x3_1 : List Int) (x9_1 : Int), v9 = .int .i64 x9_1 ∧ Aside0 (impl_text.l0 kq x3_1 l0 (l0.length : Int) x9_1 = some r) ∧ Aside0 (kq ≤ k) ∧ Aside0 (Kd.R (Kd.int .u8) 5 w' w.heap.size (fun _ => True) v3 x3_1) ∧ Aside0 (Below w.heap.size w w'))
 case atStart => exact ⟨(y136), (0), fR, H', ⟨Nat.le_refl _⟩, ⟨kR HO138⟩, ⟨bB⟩⟩
 case round =>
  clear H'
  try clear c1
  try clear p2
  obtain ⟨x3_1, x9_1, rfl, HA, HK1, HO_3, HB⟩ := hrel
  cases gk with
  | zero => exact absurd HA.out (by simp [impl_text.l0])
  | succ k1 =>
   have H := HA.out
   clear HA
   simp only [impl_text.l0] at H
   by_cases c4 : x9_1 < (l0.length : Int)
   ·rw [if_pos c4] at H
    have c4b0 : decide (x9_1 < (l0.length : Int)) = true := decide_eq_true c4
    clear c4
    replace H := nz H; obtain ⟨c5, H⟩ := H
    have c5b0 : decide (0 ≤ x9_1) = true := decide_eq_true c5
    clear c5
    replace H := nz H; obtain ⟨c6, H⟩ := H
    have c6b0 : decide (x9_1 < (l0.length : Int)) = true := decide_eq_true c6
    clear c6
    replace H := nz H; obtain ⟨c7, H⟩ := H
    have LMc7 := Aside0.mk c7
    clear c7
    obtain ⟨y140, hy140⟩ : ∃ y_ : List Int, y_ = (x3_1 ++ [(wrap64 (48 + (rd l0 x9_1))) % 256]) := ⟨_, rfl⟩
    replace H : (impl_text.l0 k1 y140 l0 (l0.length : Int) (wrap64 (x9_1 + 1))) = some r := hZ hy140 H
    have Ny140 := Aside0.mk hy140
    clear hy140
    have H' := Aside0.mk H
    clear H
    have p139 : 0 ≤ (x9_1 : Int) := oD
    have q139 : x9_1 < (l0.length : Int) := oD
    obtain ⟨ad139, e139, hx139_0⟩ := Kd.at_int HR0.out x9_1 p139 q139
    cases e139
    replace hx139_0 := (HB.out.cell (World.block_lt_of_cell? w _ hx139_0)).trans hx139_0
    replace p139 := eq_true p139
    replace q139 := eq_true q139
    go_wp2_with (first | ((with_reducible refine gate_builtin (b := .append) (xs := #[.tmp 13, .tmp 17]) rfl ?_); at_builtin; refine Kd.R_append (Kd.int .u8) (w0 := w) w.heap.size rfl (.tmp 13) (.tmp 17) 22 5 (.int .u8 0) 1 rfl Tryz.underlying22 info5 rfl (by decide) (by omega) u3 x3_1 ((wrap64 (48 + (rd l0 x9_1))) % 256) [.int .u8 ((wrap64 (48 + (rd l0 x9_1))) % 256)] (fun _ => True) (fun _ => False) rfl rfl ?aP (fun _ hk => hk.elim) ?aF ?aO ?aB ?aS ?aL ?_; (case aP => exact rfl); (case aB => exact bB); (case aF => exact (fun _ _ => trivial)); (case aO => exact (kR HO_3)); (case aS => exact (below_size bB)); (case aL => have := LMc7.out; omega); intro v141 w8 ho hb hg hat; rw [← Ny140.out] at ho; have n0_ := Aside0.mk (hb); have n1_ := Aside0.mk (ho); clear HB; clear HO_3; have HB := n0_; have HO142 := n1_; clear n0_ n1_; clear ho hb hg hat))
    go_roundg k1
    case measure => have := HK1.out; omega
    case rel => exact ⟨(y140), (wrap64 (x9_1 + 1)), fR, H', ⟨by have := HK1.out; omega⟩, ⟨kR HO142⟩, ⟨bB⟩⟩
   ·rw [if_neg c4] at H
    have c4b0 : decide (x9_1 < (l0.length : Int)) = false := decide_eq_false c4
    clear c4
    obtain rfl := Option.some.inj H
    have hcv9 := own_string (P := Tryz.prog) Tryz.underlying22 Tryz.underlying5 Tryz.underlying9 (Kd.own_of_R HO_3.out)
    go_wp2
    go_ret
    exact ⟨rE, bB⟩

/-! ### impl_Lock_code: function 70 -/
def impl_Lock_code.f (k : Nat) (a0_0 a0_1 a1 : Int) : Option ByteArray := if (1 ≤ a0_0 ∧ a0_0 ≤ 6) ∧ (2 ≤ a0_1 ∧ a0_1 ≤ 10) ∧ 0 ≤ a1 ∧ a1 ≤ 10000000 then impl_text.f k (dcode a0_1.toNat a0_0.toNat a1.toNat) else none
theorem impl_Lock_code.mono : ∀ a0 a1 a2 k, LeO (impl_Lock_code.f k a0 a1 a2) (impl_Lock_code.f (k + 1) a0 a1 a2) := by
 intro a0 a1 a2 k
 unfold impl_Lock_code.f
 exact LeO.ite (impl_text.mono _ _) (LeO.none _)
theorem impl_Lock_code.calls (K : Nat) (a0_0 a0_1 a1 : Int) (r : ByteArray) (w : World) (h : impl_Lock_code.f K a0_0 a0_1 a1 = some r) :
  Calls Tryz.prog 70 #[.agg #[.int .i64 a0_0, .int .i64 a0_1], .int .i64 a1] w fun e w' => e = .returned (.string r) ∧ Below w.heap.size w w' := by
 unfold impl_Lock_code.f at h
 by_cases hA : (1 ≤ a0_0 ∧ a0_0 ≤ 6) ∧ (2 ≤ a0_1 ∧ a0_1 ≤ 10) ∧ 0 ≤ a1 ∧ a1 ≤ 10000000
 case neg => rw [if_neg hA] at h; exact absurd h (by simp)
 rw [if_pos hA] at h
 obtain ⟨⟨hk1, hk2⟩, ⟨hm1, hm2⟩, hn1, hn2⟩ := hA
 obtain ⟨k, rfl⟩ := Int.eq_ofNat_of_zero_le (show 0 ≤ a0_0 by omega)
 obtain ⟨m, rfl⟩ := Int.eq_ofNat_of_zero_le (show 0 ≤ a0_1 by omega)
 obtain ⟨n, rfl⟩ := Int.eq_ofNat_of_zero_le hn1
 simp only [Int.toNat_natCast] at h
 have htx : ∀ (A : Option Addr) (c : Nat) (W : World), k ≤ c → Kd.C (Kd.int .i64) W A k (dcode m k n) → Calls Tryz.prog 109 #[.slice A k c] W fun e w' => e = .returned (.string r) ∧ Below W.heap.size W w' := fun A c W h1 h2 => by
  have := impl_text.calls K A c (dcode m k n) r W (by rw [dcode_len]; exact h2) (by rw [dcode_len]; exact h1) h
  rw [dcode_len] at this
  exact this
 clear h
 have hw0 : (w.alloc (.cells #[.int .i64 (k : Int), .int .i64 (m : Int)] 25)).heap.size = w.heap.size + 1 := World.size_alloc _ _
 have hb0 : Below w.heap.size w (w.alloc (.cells #[.int .i64 (k : Int), .int .i64 (m : Int)] 25)) := below_alloc (Below.refl _ _) _
 have hbc : (w.alloc (.cells #[.int .i64 (k : Int), .int .i64 (m : Int)] 25)).cell? ⟨w.heap.size, 0, none⟩ = some (.int .i64 k) ∧ (w.alloc (.cells #[.int .i64 (k : Int), .int .i64 (m : Int)] 25)).cell? ⟨w.heap.size, 1, none⟩ = some (.int .i64 m) := ⟨by simp, by simp⟩
 obtain ⟨W0, hW0⟩ : ∃ W0, W0 = w.alloc (.cells #[.int .i64 (k : Int), .int .i64 (m : Int)] 25) := ⟨_, rfl⟩
 rw [← hW0] at hw0 hb0 hbc
 have HW0 := Aside0.mk hW0
 have HS0 := Aside0.mk hw0
 have HB0 := Aside0.mk hb0
 have HC0 := Aside0.mk hbc
 clear hw0 hb0 hbc hW0
 have hin3 : (Tryz.prog.info? 3).map (fun i => (i.zero, i.size, i.bytes)) = some (some (.int .i64 0), 1, 8) := by kernel_rfl
 go_enter Tryz.func70, Tryz.ntmps70
 go_wp2_with ((with_reducible refine gate_dst (N := 9) rfl ?_); go_loud (rw [← HW0.out]; refine Kd.R_make (Kd.int .i64) (w0 := W0) (w.heap.size + 1) 3 rfl (N := 9) rfl 55 _ _ rfl (k : Int) rfl rfl Tryz.underlying55 (.int .i64 0) 8 hin3 rfl (by decide) (by omega) 0 (ok := fun _ => True) (okp := fun _ => True) rfl (fun _ hk => hk) trivial (by omega) (by omega) (Below.refl _ _) (by rw [HS0.out]; exact Nat.le_refl _) ?_; intro v1 w1 ho hb hg_ hnew_; have HO := Aside0.mk ho; have HB := Aside0.mk hb; have hc0 := (hb.cell (p := ⟨w.heap.size, 0, none⟩) (by simp)).trans HC0.out.1; clear ho hb hg_ hnew_))
 obtain ⟨b, cp, rfl, hb1, hb2, _⟩ := Kd.R_form HO.out (by simp; omega)
 have ho := HO.out
 rw [Int.toNat_natCast, List.length_replicate] at *
 have HO1 := Aside0.mk ho
 have hkc := (Kd.R_reads' ho).2.1
 have HB1 := Aside0.mk hb1
 clear ho HO hb1 hb2 hc0
 go_loopg [1, 6] k (fun gg v6 v8 wx => ∃ (j q : Nat) (i : Int) (tail : List Int), v6 = .int .i64 (q : Int) ∧ v8 = .int .i64 i ∧ Aside0 (i = (j : Int) - 1) ∧ j ≤ k ∧ j ≤ gg ∧ Aside0 (tail.length + j = k) ∧ Aside0 (dcode m j q ++ tail = dcode m k n) ∧ q ≤ 10000000 ∧
  Aside0 (Kd.R (Kd.int .i64) 3 wx (w.heap.size + 1) (fun _ => True) (.slice (some ⟨b, 0, none⟩) k cp) (List.replicate j 0 ++ tail)) ∧ Aside0 (Below (w.heap.size + 1) W0 wx))
 case atStart => exact ⟨k, n, (k : Int) - 1, [], rfl, rfl, ⟨rfl⟩, by omega, by omega, ⟨by simp⟩, ⟨by simp⟩, by omega, ⟨by simpa using HO1.out⟩, HB⟩
 case round =>
  obtain ⟨j, q, i, tail, rfl, rfl, HIdx, hj, hgj, HL, HC, hq, HR, HBx⟩ := hrel
  cases j with
  | zero =>
   obtain rfl : i = -1 := by have := HIdx.out; omega
   have hrow : Kd.R (Kd.int .i64) 3 wr (w.heap.size + 1) (fun _ => True) (.slice (some ⟨b, 0, none⟩) k cp) (dcode m k n) := by
    have := HR.out
    have e := HC.out
    simp only [dcode, List.nil_append] at e
    simp only [List.replicate_zero, List.nil_append, e] at this
    exact this
   have hcl := htx (some ⟨b, 0, none⟩) cp wr hkc (by have h9 := (Kd.R_reads' hrow).2.2; rw [dcode_len] at h9; exact h9)
   clear htx hrow HR HC HL
   go_wp2_with (go_at_call 109; refine hcl.mono ?_; rintro e w' ⟨rfl, hb⟩; have HB9 := Aside0.mk hb; clear hb)
   go_ret
   exact ⟨rfl, HB0.out.trans ((HBx.out.trans (HB9.out.mono (by have := HBx.out.size; have := HS0.out; omega))).mono (by omega))⟩
  | succ j =>
   obtain rfl : i = (j : Int) := by have := HIdx.out; omega
   obtain ⟨hcell, hfr⟩ := Kd.R_celln (0 : Int) HR.out (j : Int) (by omega) (by omega)
   rw [Int.toNat_natCast] at hcell hfr
   have hjk : (j : Int) < (k : Int) := by omega
   have hcm := (HBx.out.cell (p := ⟨w.heap.size, 1, none⟩) (by simp)).trans HC0.out.2
   have hcm2 : (wr.setCell ⟨b, j, none⟩ (.int .i64 ((q : Int) % (m : Int)))).cell? ⟨w.heap.size, 1, none⟩ = some (.int .i64 m) := (World.cell?_setCell_other _ _ _ _ (fun e_ => by have e2_ : b = w.heap.size := congrArg Addr.block e_; have := HB1.out; omega)).trans hcm
   have hqd : wrap64 ((q : Int) / (m : Int)) = ((q / m : Nat) : Int) := by
    have h1 : q / m ≤ q := Nat.div_le_self q m
    have h2 : ((q / m : Nat) : Int) = (q : Int) / (m : Int) := Int.natCast_ediv q m
    rw [← h2]
    clear h2
    generalize q / m = z at h1
    unfold wrap64
    omega
   have HP2 := Aside0.mk (Kd.R_putn (enc := Value.int .i64) HR.out (j : Int) ((q : Int) % (m : Int)))
   go_wp2
   go_region
   go_wp2
   go_roundg j
   case measure => omega
   case rel =>
    refine ⟨j, q / m, (j : Int) - 1, ((q : Int) % (m : Int)) :: tail, by rw [hqd], rfl, ⟨rfl⟩, by omega, by omega, ⟨by have := HL.out; simp only [List.length_cons]; omega⟩, ⟨?_⟩, by have : q / m ≤ q := Nat.div_le_self q m; omega, ⟨?_⟩, ⟨?_⟩⟩
    ·have e := HC.out
     rw [dcode, List.append_assoc, Int.natCast_emod] at e
     exact e
    ·have e : (List.replicate (j + 1) (0 : Int) ++ tail).set ((j : Int)).toNat ((q : Int) % (m : Int)) = List.replicate j 0 ++ ((q : Int) % (m : Int)) :: tail := by
      rw [Int.toNat_natCast, List.replicate_succ', List.append_assoc, List.set_append_right _ _ (by simp)]
      simp
     have := Kd.R_drew HP2.out
     rw [e, Int.toNat_natCast] at this
     exact this
    ·exact below_drew (HBx.out.setCell HB1.out _)

/-! ### impl_fits_1: function 111 -/
def fits1 (k : Nat) (c : ByteArray) (x : S35) : Option Bool := (impl_hint.f k x.f0 c).map fun r => !decide (r.1 = x.f1 ∧ r.2 = x.f2)
set_option maxHeartbeats 4000000 in
set_option maxRecDepth 100000 in
theorem fits1_calls (k : Nat) (c : ByteArray) (B : Nat) (x : S35) (r : Bool) (w : World) (hc0 : w.cell? ⟨B, 0, none⟩ = some (.string c)) (h : fits1 k c x = some r) :
  Calls Tryz.prog 111 #[.agg #[.string x.f0, .int .i64 x.f1, .int .i64 x.f2], .pointer (some ⟨B, 0, none⟩)] w fun e w' => e = .returned (.bool r) ∧ Below w.heap.size w w' := by
 have hu75 := Tryz.underlying35
 have hu9 := Tryz.underlying9
 unfold fits1 at h
 obtain ⟨⟨p, o⟩, hpo, e1⟩ := Option.map_eq_some_iff.mp h
 subst e1
 have hhint : ∀ W, Calls Tryz.prog 56 #[.string x.f0, .string c] W _ := fun W => impl_hint.calls k x.f0 c p o W hpo
 have hb0 := hw_cell_old w (.cells #[.string x.f0, .int .i64 x.f1, .int .i64 x.f2] 35) hc0
 clear h hpo hc0
 simp only
 by_cases hp : p = x.f1
 ·have hpb : (p != x.f1) = false := by simp [hp]
  by_cases ho : o = x.f2
  ·have hob : (o != x.f2) = false := by simp [ho]
   rw [decide_eq_true (show p = x.f1 ∧ o = x.f2 from ⟨hp, ho⟩)]
   clear hp ho
   go_enter Tryz.func111, Tryz.ntmps111
   go_wp2_with (go_at_call 56; refine (hhint _).mono ?_; rintro e w1 ⟨rfl, hb⟩; have HB := Aside0.mk hb; have m1 := pw_cell_below hb (show (w.alloc (.cells #[.string x.f0, .int .i64 x.f1, .int .i64 x.f2] 35)).cell? ⟨w.heap.size, 1, none⟩ = some (.int .i64 x.f1) by simp); have m2 := pw_cell_below hb (show (w.alloc (.cells #[.string x.f0, .int .i64 x.f1, .int .i64 x.f2] 35)).cell? ⟨w.heap.size, 2, none⟩ = some (.int .i64 x.f2) by simp); clear hb)
   go_ret
   exact ⟨rfl, below_then (below_alloc (Below.refl _ _) _) (by simp) HB.out⟩
  ·have hob : (o != x.f2) = true := by simp [ho]
   rw [decide_eq_false (show ¬ (p = x.f1 ∧ o = x.f2) from fun h => ho h.2)]
   clear hp ho
   go_enter Tryz.func111, Tryz.ntmps111
   go_wp2_with (go_at_call 56; refine (hhint _).mono ?_; rintro e w1 ⟨rfl, hb⟩; have HB := Aside0.mk hb; have m1 := pw_cell_below hb (show (w.alloc (.cells #[.string x.f0, .int .i64 x.f1, .int .i64 x.f2] 35)).cell? ⟨w.heap.size, 1, none⟩ = some (.int .i64 x.f1) by simp); have m2 := pw_cell_below hb (show (w.alloc (.cells #[.string x.f0, .int .i64 x.f1, .int .i64 x.f2] 35)).cell? ⟨w.heap.size, 2, none⟩ = some (.int .i64 x.f2) by simp); clear hb)
   go_ret
   exact ⟨rfl, below_then (below_alloc (Below.refl _ _) _) (by simp) HB.out⟩
 ·have hpb : (p != x.f1) = true := by simp [hp]
  rw [decide_eq_false (show ¬ (p = x.f1 ∧ o = x.f2) from fun h => hp h.1)]
  clear hp
  go_enter Tryz.func111, Tryz.ntmps111
  go_wp2_with (go_at_call 56; refine (hhint _).mono ?_; rintro e w1 ⟨rfl, hb⟩; have HB := Aside0.mk hb; have m1 := pw_cell_below hb (show (w.alloc (.cells #[.string x.f0, .int .i64 x.f1, .int .i64 x.f2] 35)).cell? ⟨w.heap.size, 1, none⟩ = some (.int .i64 x.f1) by simp); have m2 := pw_cell_below hb (show (w.alloc (.cells #[.string x.f0, .int .i64 x.f1, .int .i64 x.f2] 35)).cell? ⟨w.heap.size, 2, none⟩ = some (.int .i64 x.f2) by simp); clear hb)
  go_ret
  exact ⟨rfl, below_then (below_alloc (Below.refl _ _) _) (by simp) HB.out⟩


/-! ### impl_fits: function 77 -/
def impl_fits.f (k : Nat) (l : List S35) (c : ByteArray) : Option Bool := if l.length ≤ 1000000000000000000 then (anyO (fits1 k c) l).map (fun b => !b) else none
theorem fits1_mono (k : Nat) (c : ByteArray) (x : S35) : LeO (fits1 k c x) (fits1 (k + 1) c x) := LeO.map _ (impl_hint.mono _ _ _)
theorem impl_fits.mono : ∀ l c k, LeO (impl_fits.f k l c) (impl_fits.f (k + 1) l c) := by
 intro l c k
 unfold impl_fits.f
 exact LeO.ite (LeO.map _ (anyO_mono (fun x => fits1_mono k c x) _)) (LeO.none _)
set_option maxHeartbeats 4000000 in
set_option maxRecDepth 100000 in
theorem impl_fits.calls (k : Nat) (A0 : Option Addr) (c0 : Nat) (l0 : List S35) (a1 : ByteArray) (r : Bool) (w : World) (hr0 : Kd.C k35 w A0 l0.length l0) (hc0 : l0.length ≤ c0) (h : impl_fits.f k l0 a1 = some r) :
  Calls Tryz.prog 77 #[.slice A0 l0.length c0, .string a1] w fun e w' => e = .returned (.bool r) ∧ Below w.heap.size w w' := by
 have hu9 := Tryz.underlying9
 unfold impl_fits.f at h
 by_cases hlen : l0.length ≤ 1000000000000000000
 case neg => rw [if_neg hlen] at h; exact absurd h (by simp)
 rw [if_pos hlen] at h
 obtain ⟨b2, hb2, e1⟩ := Option.map_eq_some_iff.mp h
 subst e1
 have eg : ∀ args w, (callFunc 111 args).run Tryz.prog w = .ok (.enter 111 args) w := enters_of Tryz.func111 (by kernel_rfl) rfl
 have c0' : (w.alloc (.cells #[.string a1] 9)).cell? ⟨w.heap.size, 0, none⟩ = some (.string a1) := by simp
 have hcon : Calls Tryz.prog 101 #[.slice A0 l0.length c0, .func (.func 111) #[] #[.pointer (some ⟨w.heap.size, 0, none⟩)]] (w.alloc (.cells #[.string a1] 9)) fun e w' => e = .returned (.bool b2) ∧ Below (w.alloc (.cells #[.string a1] 9)).heap.size (w.alloc (.cells #[.string a1] 9)) w' :=
  conH_calls 111 #[.pointer (some ⟨w.heap.size, 0, none⟩)] (fits1 k a1) A0 c0 l0 b2 _ eg (Kd.C_alloc hr0 _) hlen hb2 (fun x r W2 hx hB => fits1_calls k a1 w.heap.size x r W2 (pw_cell_below hB c0') hx)
 clear h hb2 eg hlen hr0 hc0 c0'
 go_enter Tryz.func77, Tryz.ntmps77
 go_wp2_with (go_at_call 101; refine hcon.mono ?_; rintro e w2 ⟨rfl, hb⟩; have HB2 := Aside0.mk hb; clear hb)
 go_ret
 exact ⟨by simp, below_then (below_alloc (Below.refl _ _) _) (by simp) HB2.out⟩

/-! ### impl_Lock_fitting: function 58 -/
def impl_Lock_fitting.l0 : Nat → List (S35) → List ByteArray → Int → Int → Int → Int → Option (List ByteArray)
 | 0, _, _, _, _, _, _ => none
 | k + 1, x1, x5, x10, x11, x144000, x144001 => if x11 < x10 then ((impl_Lock_code.f k x144000 x144001 x11).bind fun t148 => ((impl_fits.f k x1 t148).bind fun t149 => (if t149 = true then (if x5.length < 8796093022208 then (impl_Lock_fitting.l0 k x1 (x5 ++ [t148]) x10 (wrap64 (x11 + 1)) x144000 x144001) else (none)) else (impl_Lock_fitting.l0 k x1 x5 x10 (wrap64 (x11 + 1)) x144000 x144001)))) else (some x5)
def impl_Lock_fitting.f (k : Nat) (a0_0 : Int) (a0_1 : Int) (l1 : List (S35)) : Option (List ByteArray) := (impl_Lock_count.f k a0_0 a0_1).bind fun t147 => (impl_Lock_fitting.l0 k l1 (([] : List ByteArray)) t147 0 a0_0 a0_1)
theorem impl_Lock_fitting.mono_l : ∀ k, (∀ y0 y1 y2 y3 y4 y5, LeO (impl_Lock_fitting.l0 k y0 y1 y2 y3 y4 y5) (impl_Lock_fitting.l0 (k + 1) y0 y1 y2 y3 y4 y5))
 | 0 => fun _ _ _ _ _ _ r h => by simp [impl_Lock_fitting.l0] at h
 | k + 1 => by
  have ih0 := impl_Lock_fitting.mono_l k
  ·intro y0 y1 y2 y3 y4 y5
   unfold impl_Lock_fitting.l0
   repeat' first
   | (with_reducible first | exact ih0 _ _ _ _ _ _ | exact impl_Lock_code.mono _ _ _ _ | exact impl_Lock_count.mono _ _ _ | exact impl_fits.mono _ _ _ | exact LeO.refl _ | exact LeO.none _ | refine LeO.ite ?_ ?_ | refine LeO.bind ?_ (fun _ => ?_))
   | exact ih0 _ _ _ _ _ _
   | exact impl_Lock_code.mono _ _ _ _
   | exact impl_Lock_count.mono _ _ _
   | exact impl_fits.mono _ _ _
   | exact LeO.none _
   | refine LeO.ite ?_ ?_
   | refine LeO.bind ?_ (fun _ => ?_)
theorem impl_Lock_fitting.mono : ∀ a0 a1 a2 k, LeO (impl_Lock_fitting.f k a0 a1 a2) (impl_Lock_fitting.f (k + 1) a0 a1 a2) := by
 intro a0 a1 a2 k
 have ih0 := impl_Lock_fitting.mono_l k
 unfold impl_Lock_fitting.f
 repeat' first
   | (with_reducible first | exact ih0 _ _ _ _ _ _ | exact impl_Lock_code.mono _ _ _ _ | exact impl_Lock_count.mono _ _ _ | exact impl_fits.mono _ _ _ | exact LeO.refl _ | exact LeO.none _ | refine LeO.ite ?_ ?_ | refine LeO.bind ?_ (fun _ => ?_))
   | exact ih0 _ _ _ _ _ _
   | exact impl_Lock_code.mono _ _ _ _
   | exact impl_Lock_count.mono _ _ _
   | exact impl_fits.mono _ _ _
   | exact LeO.none _
   | refine LeO.ite ?_ ?_
   | refine LeO.bind ?_ (fun _ => ?_)
theorem impl_Lock_fitting.calls (k : Nat) (a0_0 : Int) (a0_1 : Int) (A1 : Option Addr) (c1 : Nat) (l1 : List (S35)) (r : List ByteArray) (w : World) (hr1 : Kd.C k35 w A1 l1.length l1) (hc1 : l1.length ≤ c1) (h : impl_Lock_fitting.f k a0_0 a0_1 l1 = some r) :
  Calls Tryz.prog 58 #[.agg #[.int .i64 a0_0, .int .i64 a0_1], .slice A1 l1.length c1] w fun e w' => ∃ v0_ : Value, e = .returned (v0_) ∧ Kd.R Kd.string 9 w' w.heap.size (fun _ => True) v0_ r ∧ Below w.heap.size w w' := by
 have hu25 := Tryz.underlying25
 have HR1 := Aside0.mk hr1
 have HC1 := Aside0.mk hc1
 clear hr1 hc1
 have HB := Aside0.mk (Below.refl w.heap.size w)
 have H := h
 unfold impl_Lock_fitting.f at H
 clear h
 obtain ⟨y144, hy144⟩ : ∃ y_ : List ByteArray, y_ = (([] : List ByteArray)) := ⟨_, rfl⟩
 replace H : ((impl_Lock_count.f k a0_0 a0_1).bind fun t147 => (impl_Lock_fitting.l0 k l1 y144 t147 0 a0_0 a0_1)) = some r := hZ hy144 H
 have Ny144 := Aside0.mk hy144
 clear hy144
 replace H := Option.bind_eq_some_iff.mp H
 obtain ⟨t147, A30, H⟩ := H
 (try dsimp only at H)
 have A3 := Aside0.mk A30
 clear A30
 have H' := Aside0.mk H
 clear H
 go_enter Tryz.func58, Tryz.ntmps58
 go_wp2_with (first | ((with_reducible refine gate_dst (N := 2) rfl ?_); refine box_event ?hg (N := 2) ?hd (cs := #[.int .i64 a0_0, .int .i64 a0_1]) (t := 25) ?hr ?_; (case hd => rfl); (case hg => rfl); (case hr => first | (go_simp; done) | (go_simp; rfl)); intro gb143 hg w4 hbox hb; have BK143 := Aside0.mk (hbox); have GW143 : Aside0 (w.heap.size ≤ gb143) := gW hg; have GE143 := GW143; replace HB := Aside0.mk (below_step bB hb); clear hb hbox hg) | ((with_reducible refine gate_dst (N := 8) rfl ?_); refine Kd.R_lit Kd.string _ 9 ?hg (N := 8) ?hd (xs := ([] : List ByteArray)) (inner := []) (ok := fun _ => True) (okp := fun _ => True) ?hr ?hp (fun _ hk => hk) trivial (Below.refl _ _) (Nat.le_refl _) (by simp) ?_; (case hd => rfl); (case hg => rfl); (case hr => first | (go_simp; done) | (go_simp; rfl)); (case hp => exact (Reps.none _ _)); intro v145 w5 ho6 hb hg_ hnew_; clear hg_ hnew_; (first | rw [← Ny144.out] at ho6 | (simp only [Int.reduceToNat] at ho6; rw [← Ny144.out] at ho6)); have HO146 := Aside0.mk (Kd.R_lower ho6 (below_size bG)); replace BK143 := bW BK143 hb; replace HB := Aside0.mk (below_step bG hb); clear hb ho6; have hcz7_0 := cZ BK143 0 (.int .i64 a0_0); have hcz7_1 := cZ BK143 1 (.int .i64 a0_1); have hfz7_0 := blk_frozen BK143.out 0; have hfz7_1 := blk_frozen BK143.out 1) | ((with_reducible refine gate_callee (f := 83) rfl ?_); refine goesL_ (some 10) rfl rfl Tryz.func83 (by kernel_rfl) rfl #[.agg #[.int .i64 a0_0, .int .i64 a0_1]] rfl lM ?_; (with_reducible refine (impl_Lock_count.calls k a0_0 a0_1 t147 _ A3.out).mono ?_); rintro e w8 ⟨rfl, hb⟩; refine ⟨_, rfl, ?_⟩; replace HO146 := Aside0.mk (Kd.R_below (kR HO146) hb); replace BK143 := bW BK143 hb; replace HB := Aside0.mk (below_step bG hb); (try clear hb)))
 go_loopg [5, 11] k (fun kq v5 v11 w' => ∃ (x5_1 : List ByteArray) (x11_1 : Int), v11 = .int .i64 x11_1 ∧ Aside0 (impl_Lock_fitting.l0 kq l1 x5_1 t147 x11_1 a0_0 a0_1 = some r) ∧ Aside0 (kq ≤ k) ∧ Aside0 (Kd.R Kd.string 9 w' w.heap.size (fun _ => True) v5 x5_1) ∧ Aside0 (w'.heap[gb143]? = some (.cells #[.int .i64 a0_0, .int .i64 a0_1] 25 (0, 0))) ∧ Aside0 (Below w.heap.size w w'))
 case atStart => exact ⟨(y144), (0), fR, H', ⟨Nat.le_refl _⟩, ⟨kR HO146⟩, ⟨bK⟩, ⟨bG⟩⟩
 case round =>
  clear H'
  try clear c1
  try clear p2
  try clear c5
  try clear c8
  try clear hcz7_0
  try clear hcz7_1
  try clear hfz7_0
  try clear hfz7_1
  obtain ⟨x5_1, x11_1, rfl, HA, HK1, HO_5, BK143, HB⟩ := hrel
  cases gk with
  | zero => exact absurd HA.out (by simp [impl_Lock_fitting.l0])
  | succ k1 =>
   have H := HA.out
   clear HA
   simp only [impl_Lock_fitting.l0] at H
   by_cases c9 : x11_1 < t147
   ·rw [if_pos c9] at H
    have c9b0 : decide (x11_1 < t147) = true := decide_eq_true c9
    clear c9
    replace H := Option.bind_eq_some_iff.mp H
    obtain ⟨t148, A100, H⟩ := H
    (try dsimp only at H)
    have A10 := Aside0.mk A100
    clear A100
    replace H := Option.bind_eq_some_iff.mp H
    obtain ⟨t149, A110, H⟩ := H
    (try dsimp only at H)
    have A11 := Aside0.mk A110
    clear A110
    by_cases c12 : t149 = true
    ·subst c12
     replace H := zt H
     replace H := nz H; obtain ⟨c13, H⟩ := H
     have LMc13 := Aside0.mk c13
     clear c13
     obtain ⟨y150, hy150⟩ : ∃ y_ : List ByteArray, y_ = (x5_1 ++ [t148]) := ⟨_, rfl⟩
     replace H : (impl_Lock_fitting.l0 k1 l1 y150 t147 (wrap64 (x11_1 + 1)) a0_0 a0_1) = some r := hZ hy150 H
     have Ny150 := Aside0.mk hy150
     clear hy150
     have H' := Aside0.mk H
     clear H
     have hcz14_0 := cZ BK143 0 (.int .i64 a0_0)
     have hcz14_1 := cZ BK143 1 (.int .i64 a0_1)
     have hfz14_0 := blk_frozen BK143.out 0
     have hfz14_1 := blk_frozen BK143.out 1
     go_wp2_with (first | ((with_reducible refine gate_callee (f := 70) rfl ?_); refine goesL_ (some 16) rfl rfl Tryz.func70 (by kernel_rfl) rfl #[.agg #[.int .i64 a0_0, .int .i64 a0_1], .int .i64 x11_1] rfl lM ?_; (with_reducible refine (impl_Lock_code.calls k1 a0_0 a0_1 x11_1 t148 _ A10.out).mono ?_); rintro e w15 ⟨rfl, hb⟩; refine ⟨_, rfl, ?_⟩; replace HO_5 := Aside0.mk (Kd.R_below (kR HO_5) hb); replace BK143 := bW BK143 hb; replace HB := Aside0.mk (below_step bG hb); (try clear hb)) | ((with_reducible refine gate_callee (f := 77) rfl ?_); refine goesL_ (some 19) rfl rfl Tryz.func77 (by kernel_rfl) rfl #[.slice A1 l1.length c1, .string t148] rfl lM ?_; (with_reducible refine (impl_fits.calls k1 _ _ l1 t148 true _ ?side1 ?side2 A11.out).mono ?_); (case side1 => exact cS (Kd.C_below HR1.out HB.out)); (case side2 => exact HC1.out); rintro e w16 ⟨rfl, hb⟩; refine ⟨_, rfl, ?_⟩; replace HO_5 := Aside0.mk (Kd.R_below (kR HO_5) hb); replace BK143 := bW BK143 hb; replace HB := Aside0.mk (below_step bG hb); (try clear hb)) | ((with_reducible refine gate_builtin (b := .append) (xs := #[.tmp 20, .tmp 22]) rfl ?_); at_builtin; refine Kd.R_append Kd.string (w0 := w) w.heap.size rfl (.tmp 20) (.tmp 22) 38 9 (.string ⟨#[]⟩) 16 rfl Tryz.underlying38 info9 rfl (by decide) (by omega) u5 x5_1 t148 [.string t148] (fun _ => True) (fun _ => False) rfl rfl ?aP (fun _ hk => hk.elim) ?aF ?aO ?aB ?aS ?aL ?_; (case aP => exact rfl); (case aB => exact bG); (case aF => exact (fun _ _ => trivial)); (case aO => exact (kR HO_5)); (case aS => exact (below_size bG)); (case aL => have := LMc13.out; omega); intro v151 w17 ho hb hg hat; rw [← Ny150.out] at ho; have n0_ := Aside0.mk (blk_grown (g := gb143) (o := .cells #[.int .i64 a0_0, .int .i64 a0_1] 25 (0, 0)) bK hg (Kd.R_ne HO_5.out BK143.out (by decide))); have n1_ := Aside0.mk (hb); have n2_ := Aside0.mk (ho); clear BK143; clear HB; clear HO_5; have BK143 := n0_; have HB := n1_; have HO152 := n2_; clear n0_ n1_ n2_; clear ho hb hg hat))
     go_roundg k1
     case measure => have := HK1.out; omega
     case rel => exact ⟨(y150), (wrap64 (x11_1 + 1)), fR, H', ⟨by have := HK1.out; omega⟩, ⟨kR HO152⟩, ⟨bK⟩, ⟨bG⟩⟩
    ·replace c12 := Bool.eq_false_iff.mpr c12
     subst c12
     replace H := zf H
     have H' := Aside0.mk H
     clear H
     have hcz18_0 := cZ BK143 0 (.int .i64 a0_0)
     have hcz18_1 := cZ BK143 1 (.int .i64 a0_1)
     have hfz18_0 := blk_frozen BK143.out 0
     have hfz18_1 := blk_frozen BK143.out 1
     go_wp2_with (first | ((with_reducible refine gate_callee (f := 70) rfl ?_); refine goesL_ (some 16) rfl rfl Tryz.func70 (by kernel_rfl) rfl #[.agg #[.int .i64 a0_0, .int .i64 a0_1], .int .i64 x11_1] rfl lM ?_; (with_reducible refine (impl_Lock_code.calls k1 a0_0 a0_1 x11_1 t148 _ A10.out).mono ?_); rintro e w19 ⟨rfl, hb⟩; refine ⟨_, rfl, ?_⟩; replace HO_5 := Aside0.mk (Kd.R_below (kR HO_5) hb); replace BK143 := bW BK143 hb; replace HB := Aside0.mk (below_step bG hb); (try clear hb)) | ((with_reducible refine gate_callee (f := 77) rfl ?_); refine goesL_ (some 19) rfl rfl Tryz.func77 (by kernel_rfl) rfl #[.slice A1 l1.length c1, .string t148] rfl lM ?_; (with_reducible refine (impl_fits.calls k1 _ _ l1 t148 false _ ?side1 ?side2 A11.out).mono ?_); (case side1 => exact cS (Kd.C_below HR1.out HB.out)); (case side2 => exact HC1.out); rintro e w20 ⟨rfl, hb⟩; refine ⟨_, rfl, ?_⟩; replace HO_5 := Aside0.mk (Kd.R_below (kR HO_5) hb); replace BK143 := bW BK143 hb; replace HB := Aside0.mk (below_step bG hb); (try clear hb)))
     go_roundg k1
     case measure => have := HK1.out; omega
     case rel => exact ⟨(x5_1), (wrap64 (x11_1 + 1)), fR, H', ⟨by have := HK1.out; omega⟩, ⟨kR HO_5⟩, ⟨bK⟩, ⟨bG⟩⟩
   ·rw [if_neg c9] at H
    have c9b0 : decide (x11_1 < t147) = false := decide_eq_false c9
    clear c9
    obtain rfl := Option.some.inj H
    go_wp2
    go_ret
    exact ⟨_, rE, kR HO_5, bG⟩

/-! ### impl_FittingCodes: function 13 -/
def impl_FittingCodes.f (k : Nat) (a0_0 : Int) (a0_1 : Int) (l1 : List (S35)) : Option (List ByteArray × Bool) := (impl_areHints.f k a0_0 a0_1 l1).bind fun t154 => (if t154 = true then ((impl_Lock_fitting.f k a0_0 a0_1 l1).bind fun t155 => (some (t155, true))) else (some (([] : List ByteArray), false)))
theorem impl_FittingCodes.mono : ∀ a0 a1 a2 k, LeO (impl_FittingCodes.f k a0 a1 a2) (impl_FittingCodes.f (k + 1) a0 a1 a2) := by
 intro a0 a1 a2 k
 unfold impl_FittingCodes.f
 repeat' first
   | (with_reducible first | exact impl_Lock_fitting.mono _ _ _ _ | exact impl_areHints.mono _ _ _ _ | exact LeO.refl _ | exact LeO.none _ | refine LeO.ite ?_ ?_ | refine LeO.bind ?_ (fun _ => ?_))
   | exact impl_Lock_fitting.mono _ _ _ _
   | exact impl_areHints.mono _ _ _ _
   | exact LeO.none _
   | refine LeO.ite ?_ ?_
   | refine LeO.bind ?_ (fun _ => ?_)
theorem impl_FittingCodes.calls (k : Nat) (a0_0 : Int) (a0_1 : Int) (A1 : Option Addr) (c1 : Nat) (l1 : List (S35)) (r1 : List ByteArray) (r2 : Bool) (w : World) (hr1 : Kd.C k35 w A1 l1.length l1) (hc1 : l1.length ≤ c1) (h : impl_FittingCodes.f k a0_0 a0_1 l1 = some (r1, r2)) :
  Calls Tryz.prog 13 #[.agg #[.int .i64 a0_0, .int .i64 a0_1], .slice A1 l1.length c1] w fun e w' => ∃ v0_ : Value, e = .returned (.tuple #[v0_, .bool r2]) ∧ Kd.R Kd.string 9 w' w.heap.size (fun _ => True) v0_ r1 ∧ Below w.heap.size w w' := by
 have hu25 := Tryz.underlying25
 have HR1 := Aside0.mk hr1
 have HC1 := Aside0.mk hc1
 clear hr1 hc1
 have HB := Aside0.mk (Below.refl w.heap.size w)
 have H := h
 unfold impl_FittingCodes.f at H
 clear h
 replace H := Option.bind_eq_some_iff.mp H
 obtain ⟨t154, A30, H⟩ := H
 (try dsimp only at H)
 have A3 := Aside0.mk A30
 clear A30
 by_cases c4 : t154 = true
 ·subst c4
  replace H := zt H
  replace H := Option.bind_eq_some_iff.mp H
  obtain ⟨t155, A50, H⟩ := H
  (try dsimp only at H)
  have A5 := Aside0.mk A50
  clear A50
  simp only [Option.some.injEq, Prod.mk.injEq] at H
  obtain ⟨rfl, rfl⟩ := H
  go_enter Tryz.func13, Tryz.ntmps13
  go_wp2_with (first | ((with_reducible refine gate_dst (N := 2) rfl ?_); refine box_event ?hg (N := 2) ?hd (cs := #[.int .i64 a0_0, .int .i64 a0_1]) (t := 25) ?hr ?_; (case hd => rfl); (case hg => rfl); (case hr => first | (go_simp; done) | (go_simp; rfl)); intro gb153 hg w6 hbox hb; have BK153 := Aside0.mk (hbox); have GW153 : Aside0 (w.heap.size ≤ gb153) := gW hg; have GE153 := GW153; replace HB := Aside0.mk (below_step bB hb); clear hb hbox hg; have hcz7_0 := cZ BK153 0 (.int .i64 a0_0); have hcz7_1 := cZ BK153 1 (.int .i64 a0_1); have hfz7_0 := blk_frozen BK153.out 0; have hfz7_1 := blk_frozen BK153.out 1) | ((with_reducible refine gate_callee (f := 57) rfl ?_); refine goesL_ (some 8) rfl rfl Tryz.func57 (by kernel_rfl) rfl #[.agg #[.int .i64 a0_0, .int .i64 a0_1], .slice A1 l1.length c1] rfl lM ?_; (with_reducible refine (impl_areHints.calls k a0_0 a0_1 _ _ l1 true _ ?side1 ?side2 A3.out).mono ?_); (case side1 => exact cS (Kd.C_below HR1.out HB.out)); (case side2 => exact HC1.out); rintro e w8 ⟨rfl, hb⟩; refine ⟨_, rfl, ?_⟩; replace BK153 := bW BK153 hb; replace HB := Aside0.mk (below_step bG hb); (try clear hb); have hcz9_0 := cZ BK153 0 (.int .i64 a0_0); have hcz9_1 := cZ BK153 1 (.int .i64 a0_1); have hfz9_0 := blk_frozen BK153.out 0; have hfz9_1 := blk_frozen BK153.out 1) | ((with_reducible refine gate_callee (f := 58) rfl ?_); refine goesL_ (some 12) rfl rfl Tryz.func58 (by kernel_rfl) rfl #[.agg #[.int .i64 a0_0, .int .i64 a0_1], .slice A1 l1.length c1] rfl lM ?_; (with_reducible refine (impl_Lock_fitting.calls k a0_0 a0_1 _ _ l1 t155 _ ?side1 ?side2 A5.out).mono ?_); (case side1 => exact cS (Kd.C_below HR1.out HB.out)); (case side2 => exact HC1.out); rintro e w10 ⟨v156, rfl, ho0, hb⟩; refine ⟨_, rfl, ?_⟩; have HO157 := Aside0.mk (Kd.R_lower ho0 (below_size bG)); replace BK153 := bW BK153 hb; replace HB := Aside0.mk (below_step bG hb); (try clear hb); (try clear ho0)))
  go_ret2
  exact ⟨_, rE, kR HO157, bG⟩
 ·replace c4 := Bool.eq_false_iff.mpr c4
  subst c4
  replace H := zf H
  simp only [Option.some.injEq, Prod.mk.injEq] at H
  obtain ⟨rfl, rfl⟩ := H
  go_enter Tryz.func13, Tryz.ntmps13
  go_wp2_with (first | ((with_reducible refine gate_dst (N := 2) rfl ?_); refine box_event ?hg (N := 2) ?hd (cs := #[.int .i64 a0_0, .int .i64 a0_1]) (t := 25) ?hr ?_; (case hd => rfl); (case hg => rfl); (case hr => first | (go_simp; done) | (go_simp; rfl)); intro gb153 hg w11 hbox hb; have BK153 := Aside0.mk (hbox); have GW153 : Aside0 (w.heap.size ≤ gb153) := gW hg; have GE153 := GW153; replace HB := Aside0.mk (below_step bB hb); clear hb hbox hg; have hcz12_0 := cZ BK153 0 (.int .i64 a0_0); have hcz12_1 := cZ BK153 1 (.int .i64 a0_1); have hfz12_0 := blk_frozen BK153.out 0; have hfz12_1 := blk_frozen BK153.out 1) | ((with_reducible refine gate_callee (f := 57) rfl ?_); refine goesL_ (some 8) rfl rfl Tryz.func57 (by kernel_rfl) rfl #[.agg #[.int .i64 a0_0, .int .i64 a0_1], .slice A1 l1.length c1] rfl lM ?_; (with_reducible refine (impl_areHints.calls k a0_0 a0_1 _ _ l1 false _ ?side1 ?side2 A3.out).mono ?_); (case side1 => exact cS (Kd.C_below HR1.out HB.out)); (case side2 => exact HC1.out); rintro e w13 ⟨rfl, hb⟩; refine ⟨_, rfl, ?_⟩; replace BK153 := bW BK153 hb; replace HB := Aside0.mk (below_step bG hb); (try clear hb)))
  go_ret2
  exact ⟨_, rE, by first | exact Kd.R_nil _ _ _ _ _ | exact Kd.N_nil _ _ _ _ _ | exact Kd.V_nil _ _ _ _ _ | exact Kd.Q_nil _ _ _ _ _ | exact Kd.S_nil _ _ _ _ _, bG⟩

/-! ### laws_eTexts: function 24 -/
def laws_eTexts.l0 : Nat → List ByteArray → List ByteArray → Int → Int → Option (Bool)
 | 0, _, _, _, _ => none
 | k + 1, x0, x1, x12, x13 => if x13 < x12 then (if 0 ≤ x13 then (if x13 < (x0.length : Int) then (if x13 < (x1.length : Int) then (if (rdOf ByteArray.empty x0 x13).toList = (rdOf ByteArray.empty x1 x13).toList then (laws_eTexts.l0 k x0 x1 x12 (wrap64 (x13 + 1))) else (some false)) else (none)) else (none)) else (none)) else (some true)
def laws_eTexts.f (k : Nat) (l0 : List ByteArray) (l1 : List ByteArray) : Option (Bool) := if (l0.length : Int) = (l1.length : Int) then (laws_eTexts.l0 k l0 l1 (l0.length : Int) 0) else (some false)
theorem laws_eTexts.mono_l : ∀ k, (∀ y0 y1 y2 y3, LeO (laws_eTexts.l0 k y0 y1 y2 y3) (laws_eTexts.l0 (k + 1) y0 y1 y2 y3))
 | 0 => fun _ _ _ _ r h => by simp [laws_eTexts.l0] at h
 | k + 1 => by
  have ih0 := laws_eTexts.mono_l k
  ·intro y0 y1 y2 y3
   unfold laws_eTexts.l0
   repeat' first
   | (with_reducible first | exact ih0 _ _ _ _ | exact LeO.refl _ | exact LeO.none _ | refine LeO.ite ?_ ?_ | refine LeO.bind ?_ (fun _ => ?_))
   | exact ih0 _ _ _ _
   | exact LeO.none _
   | refine LeO.ite ?_ ?_
   | refine LeO.bind ?_ (fun _ => ?_)
theorem laws_eTexts.mono : ∀ a0 a1 k, LeO (laws_eTexts.f k a0 a1) (laws_eTexts.f (k + 1) a0 a1) := by
 intro a0 a1 k
 have ih0 := laws_eTexts.mono_l k
 unfold laws_eTexts.f
 repeat' first
   | (with_reducible first | exact ih0 _ _ _ _ | exact LeO.refl _ | exact LeO.none _ | refine LeO.ite ?_ ?_ | refine LeO.bind ?_ (fun _ => ?_))
   | exact ih0 _ _ _ _
   | exact LeO.none _
   | refine LeO.ite ?_ ?_
   | refine LeO.bind ?_ (fun _ => ?_)
theorem laws_eTexts.calls (k : Nat) (A0 : Option Addr) (c0 : Nat) (l0 : List ByteArray) (A1 : Option Addr) (c1 : Nat) (l1 : List ByteArray) (r : Bool) (w : World) (hr0 : Kd.C Kd.string w A0 l0.length l0) (hc0 : l0.length ≤ c0) (hr1 : Kd.C Kd.string w A1 l1.length l1) (hc1 : l1.length ≤ c1) (h : laws_eTexts.f k l0 l1 = some r) :
  Calls Tryz.prog 24 #[.slice A0 l0.length c0, .slice A1 l1.length c1] w fun e w' => e = .returned (.bool r) ∧ Drawn0 w w' := by
 have HR0 := Aside0.mk hr0
 have HC0 := Aside0.mk hc0
 clear hr0 hc0
 have HR1 := Aside0.mk hr1
 have HC1 := Aside0.mk hc1
 clear hr1 hc1
 have H := h
 unfold laws_eTexts.f at H
 clear h
 by_cases c3 : (l0.length : Int) = (l1.length : Int)
 ·rw [if_pos c3] at H
  have c3b0 : ((l0.length : Int) == (l1.length : Int)) = true := beq_iff_eq.mpr c3
  have c3b1 : ((l0.length : Int) != (l1.length : Int)) = false := bne_eq_false_iff_eq.mpr c3
  have c3b2 : (l0.length == l1.length) = true := by first | simpa using c3 | (simp at c3 ⊢; omega)
  clear c3
  have H' := Aside0.mk H
  clear H
  go_enter Tryz.func24, Tryz.ntmps24
  go_wp2
  repeat (go_quiet (fail); try go_wp2)
  go_loopg [13] k (fun kq v13 w' => ∃ (x13_1 : Int), v13 = .int .i64 x13_1 ∧ Aside0 (laws_eTexts.l0 kq l0 l1 (l0.length : Int) x13_1 = some r) ∧ Aside0 (kq ≤ k) ∧ Drawn0 w w')
  case atStart => exact ⟨(0), fR, H', ⟨Nat.le_refl _⟩, by repeat (first | exact Drawn0.refl _ | apply Drawn0.step)⟩
  case round =>
   clear H'
   try clear c1
   try clear c2
   try clear p2
   try clear c3
   try clear c3b0
   try clear c3b1
   try clear c3b2
   obtain ⟨x13_1, rfl, HA, HK1, ⟨m1, rfl⟩⟩ := hrel
   cases gk with
   | zero => exact absurd HA.out (by simp [laws_eTexts.l0])
   | succ k1 =>
    have H := HA.out
    clear HA
    simp only [laws_eTexts.l0] at H
    by_cases c4 : x13_1 < (l0.length : Int)
    ·rw [if_pos c4] at H
     have c4b0 : decide (x13_1 < (l0.length : Int)) = true := decide_eq_true c4
     clear c4
     replace H := nz H; obtain ⟨c5, H⟩ := H
     have c5b0 : decide (0 ≤ x13_1) = true := decide_eq_true c5
     clear c5
     replace H := nz H; obtain ⟨c6, H⟩ := H
     have c6b0 : decide (x13_1 < (l0.length : Int)) = true := decide_eq_true c6
     clear c6
     replace H := nz H; obtain ⟨c7, H⟩ := H
     have c7b0 : decide (x13_1 < (l1.length : Int)) = true := decide_eq_true c7
     clear c7
     by_cases c8 : (rdOf ByteArray.empty l0 x13_1).toList = (rdOf ByteArray.empty l1 x13_1).toList
     ·rw [if_pos c8] at H
      have c8b0 : ((rdOf ByteArray.empty l0 x13_1).toList == (rdOf ByteArray.empty l1 x13_1).toList) = true := beq_iff_eq.mpr c8
      have c8b1 : ((rdOf ByteArray.empty l0 x13_1).toList != (rdOf ByteArray.empty l1 x13_1).toList) = false := bne_eq_false_iff_eq.mpr c8
      clear c8
      have H' := Aside0.mk H
      clear H
      have p158 : 0 ≤ (x13_1 : Int) := oD
      have q158 : x13_1 < (l0.length : Int) := oD
      obtain ⟨ad158, e158, hx158_0⟩ := Kd.at_string HR0.out x13_1 p158 q158
      cases e158
      replace p158 := eq_true p158
      replace q158 := eq_true q158
      have p159 : 0 ≤ (x13_1 : Int) := oD
      have q159 : x13_1 < (l1.length : Int) := oD
      obtain ⟨ad159, e159, hx159_0⟩ := Kd.at_string HR1.out x13_1 p159 q159
      cases e159
      replace p159 := eq_true p159
      replace q159 := eq_true q159
      go_wp2
      repeat (go_quiet (fail); try go_wp2)
      go_roundg k1
      case measure => have := HK1.out; omega
      case rel => exact ⟨(wrap64 (x13_1 + 1)), fR, H', ⟨by have := HK1.out; omega⟩, by repeat (first | exact Drawn0.refl _ | apply Drawn0.step)⟩
     ·rw [if_neg c8] at H
      have c8b0 : ((rdOf ByteArray.empty l0 x13_1).toList == (rdOf ByteArray.empty l1 x13_1).toList) = false := beq_eq_false_iff_ne.mpr c8
      have c8b1 : ((rdOf ByteArray.empty l0 x13_1).toList != (rdOf ByteArray.empty l1 x13_1).toList) = true := bne_iff_ne.mpr c8
      obtain rfl := Option.some.inj H
      have p158 : 0 ≤ (x13_1 : Int) := oD
      have q158 : x13_1 < (l0.length : Int) := oD
      obtain ⟨ad158, e158, hx158_0⟩ := Kd.at_string HR0.out x13_1 p158 q158
      cases e158
      replace p158 := eq_true p158
      replace q158 := eq_true q158
      have p159 : 0 ≤ (x13_1 : Int) := oD
      have q159 : x13_1 < (l1.length : Int) := oD
      obtain ⟨ad159, e159, hx159_0⟩ := Kd.at_string HR1.out x13_1 p159 q159
      cases e159
      replace p159 := eq_true p159
      replace q159 := eq_true q159
      go_wp2
      repeat (go_quiet (fail); try go_wp2)
      go_ret
      exact ⟨fR, by repeat (first | exact Drawn0.refl _ | apply Drawn0.step)⟩
    ·rw [if_neg c4] at H
     have c4b0 : decide (x13_1 < (l0.length : Int)) = false := decide_eq_false c4
     clear c4
     obtain rfl := Option.some.inj H
     go_wp2
     repeat (go_quiet (fail); try go_wp2)
     go_ret
     exact ⟨fR, by repeat (first | exact Drawn0.refl _ | apply Drawn0.step)⟩
 ·rw [if_neg c3] at H
  have c3b0 : ((l0.length : Int) == (l1.length : Int)) = false := beq_eq_false_iff_ne.mpr c3
  have c3b1 : ((l0.length : Int) != (l1.length : Int)) = true := bne_iff_ne.mpr c3
  have c3b2 : (l0.length == l1.length) = false := by first | simpa using c3 | (simp at c3 ⊢; omega)
  obtain rfl := Option.some.inj H
  go_enter Tryz.func24, Tryz.ntmps24
  go_wp2
  repeat (go_quiet (fail); try go_wp2)
  go_ret
  exact ⟨fR, by repeat (first | exact Drawn0.refl _ | apply Drawn0.step)⟩

/-! ### laws_eSame: function 46 -/
def laws_eSame.l0 : Nat → List Int → List Int → Int → Int → Option (Bool)
 | 0, _, _, _, _ => none
 | k + 1, x0, x1, x12, x13 => if x13 < x12 then (if 0 ≤ x13 then (if x13 < (x0.length : Int) then (if x13 < (x1.length : Int) then (if (rd x0 x13) = (rd x1 x13) then (laws_eSame.l0 k x0 x1 x12 (wrap64 (x13 + 1))) else (some false)) else (none)) else (none)) else (none)) else (some true)
def laws_eSame.f (k : Nat) (l0 : List Int) (l1 : List Int) : Option (Bool) := if (l0.length : Int) = (l1.length : Int) then (laws_eSame.l0 k l0 l1 (l0.length : Int) 0) else (some false)
theorem laws_eSame.mono_l : ∀ k, (∀ y0 y1 y2 y3, LeO (laws_eSame.l0 k y0 y1 y2 y3) (laws_eSame.l0 (k + 1) y0 y1 y2 y3))
 | 0 => fun _ _ _ _ r h => by simp [laws_eSame.l0] at h
 | k + 1 => by
  have ih0 := laws_eSame.mono_l k
  ·intro y0 y1 y2 y3
   unfold laws_eSame.l0
   repeat' first
   | (with_reducible first | exact ih0 _ _ _ _ | exact LeO.refl _ | exact LeO.none _ | refine LeO.ite ?_ ?_ | refine LeO.bind ?_ (fun _ => ?_))
   | exact ih0 _ _ _ _
   | exact LeO.none _
   | refine LeO.ite ?_ ?_
   | refine LeO.bind ?_ (fun _ => ?_)
theorem laws_eSame.mono : ∀ a0 a1 k, LeO (laws_eSame.f k a0 a1) (laws_eSame.f (k + 1) a0 a1) := by
 intro a0 a1 k
 have ih0 := laws_eSame.mono_l k
 unfold laws_eSame.f
 repeat' first
   | (with_reducible first | exact ih0 _ _ _ _ | exact LeO.refl _ | exact LeO.none _ | refine LeO.ite ?_ ?_ | refine LeO.bind ?_ (fun _ => ?_))
   | exact ih0 _ _ _ _
   | exact LeO.none _
   | refine LeO.ite ?_ ?_
   | refine LeO.bind ?_ (fun _ => ?_)
theorem laws_eSame.calls (k : Nat) (A0 : Option Addr) (c0 : Nat) (l0 : List Int) (A1 : Option Addr) (c1 : Nat) (l1 : List Int) (r : Bool) (w : World) (hr0 : Kd.C (Kd.int .i64) w A0 l0.length l0) (hc0 : l0.length ≤ c0) (hr1 : Kd.C (Kd.int .i64) w A1 l1.length l1) (hc1 : l1.length ≤ c1) (h : laws_eSame.f k l0 l1 = some r) :
  Calls Tryz.prog 46 #[.slice A0 l0.length c0, .slice A1 l1.length c1] w fun e w' => e = .returned (.bool r) ∧ Drawn0 w w' := by
 have HR0 := Aside0.mk hr0
 have HC0 := Aside0.mk hc0
 clear hr0 hc0
 have HR1 := Aside0.mk hr1
 have HC1 := Aside0.mk hc1
 clear hr1 hc1
 have H := h
 unfold laws_eSame.f at H
 clear h
 by_cases c3 : (l0.length : Int) = (l1.length : Int)
 ·rw [if_pos c3] at H
  have c3b0 : ((l0.length : Int) == (l1.length : Int)) = true := beq_iff_eq.mpr c3
  have c3b1 : ((l0.length : Int) != (l1.length : Int)) = false := bne_eq_false_iff_eq.mpr c3
  have c3b2 : (l0.length == l1.length) = true := by first | simpa using c3 | (simp at c3 ⊢; omega)
  clear c3
  have H' := Aside0.mk H
  clear H
  go_enter Tryz.func46, Tryz.ntmps46
  go_wp2
  repeat (go_quiet (fail); try go_wp2)
  go_loopg [13] k (fun kq v13 w' => ∃ (x13_1 : Int), v13 = .int .i64 x13_1 ∧ Aside0 (laws_eSame.l0 kq l0 l1 (l0.length : Int) x13_1 = some r) ∧ Aside0 (kq ≤ k) ∧ Drawn0 w w')
  case atStart => exact ⟨(0), fR, H', ⟨Nat.le_refl _⟩, by repeat (first | exact Drawn0.refl _ | apply Drawn0.step)⟩
  case round =>
   clear H'
   try clear c1
   try clear p2
   try clear c3
   try clear c3b0
   try clear c3b1
   try clear c3b2
   obtain ⟨x13_1, rfl, HA, HK1, ⟨m1, rfl⟩⟩ := hrel
   cases gk with
   | zero => exact absurd HA.out (by simp [laws_eSame.l0])
   | succ k1 =>
    have H := HA.out
    clear HA
    simp only [laws_eSame.l0] at H
    by_cases c4 : x13_1 < (l0.length : Int)
    ·rw [if_pos c4] at H
     have c4b0 : decide (x13_1 < (l0.length : Int)) = true := decide_eq_true c4
     clear c4
     replace H := nz H; obtain ⟨c5, H⟩ := H
     have c5b0 : decide (0 ≤ x13_1) = true := decide_eq_true c5
     clear c5
     replace H := nz H; obtain ⟨c6, H⟩ := H
     have c6b0 : decide (x13_1 < (l0.length : Int)) = true := decide_eq_true c6
     clear c6
     replace H := nz H; obtain ⟨c7, H⟩ := H
     have c7b0 : decide (x13_1 < (l1.length : Int)) = true := decide_eq_true c7
     clear c7
     by_cases c8 : (rd l0 x13_1) = (rd l1 x13_1)
     ·rw [if_pos c8] at H
      have c8b0 : ((rd l0 x13_1) == (rd l1 x13_1)) = true := beq_iff_eq.mpr c8
      have c8b1 : ((rd l0 x13_1) != (rd l1 x13_1)) = false := bne_eq_false_iff_eq.mpr c8
      clear c8
      have H' := Aside0.mk H
      clear H
      have p160 : 0 ≤ (x13_1 : Int) := oD
      have q160 : x13_1 < (l0.length : Int) := oD
      obtain ⟨ad160, e160, hx160_0⟩ := Kd.at_int HR0.out x13_1 p160 q160
      cases e160
      replace p160 := eq_true p160
      replace q160 := eq_true q160
      have p161 : 0 ≤ (x13_1 : Int) := oD
      have q161 : x13_1 < (l1.length : Int) := oD
      obtain ⟨ad161, e161, hx161_0⟩ := Kd.at_int HR1.out x13_1 p161 q161
      cases e161
      replace p161 := eq_true p161
      replace q161 := eq_true q161
      go_wp2
      repeat (go_quiet (fail); try go_wp2)
      go_roundg k1
      case measure => have := HK1.out; omega
      case rel => exact ⟨(wrap64 (x13_1 + 1)), fR, H', ⟨by have := HK1.out; omega⟩, by repeat (first | exact Drawn0.refl _ | apply Drawn0.step)⟩
     ·rw [if_neg c8] at H
      have c8b0 : ((rd l0 x13_1) == (rd l1 x13_1)) = false := beq_eq_false_iff_ne.mpr c8
      have c8b1 : ((rd l0 x13_1) != (rd l1 x13_1)) = true := bne_iff_ne.mpr c8
      obtain rfl := Option.some.inj H
      have p160 : 0 ≤ (x13_1 : Int) := oD
      have q160 : x13_1 < (l0.length : Int) := oD
      obtain ⟨ad160, e160, hx160_0⟩ := Kd.at_int HR0.out x13_1 p160 q160
      cases e160
      replace p160 := eq_true p160
      replace q160 := eq_true q160
      have p161 : 0 ≤ (x13_1 : Int) := oD
      have q161 : x13_1 < (l1.length : Int) := oD
      obtain ⟨ad161, e161, hx161_0⟩ := Kd.at_int HR1.out x13_1 p161 q161
      cases e161
      replace p161 := eq_true p161
      replace q161 := eq_true q161
      go_wp2
      repeat (go_quiet (fail); try go_wp2)
      go_ret
      exact ⟨fR, by repeat (first | exact Drawn0.refl _ | apply Drawn0.step)⟩
    ·rw [if_neg c4] at H
     have c4b0 : decide (x13_1 < (l0.length : Int)) = false := decide_eq_false c4
     clear c4
     obtain rfl := Option.some.inj H
     go_wp2
     repeat (go_quiet (fail); try go_wp2)
     go_ret
     exact ⟨fR, by repeat (first | exact Drawn0.refl _ | apply Drawn0.step)⟩
 ·rw [if_neg c3] at H
  have c3b0 : ((l0.length : Int) == (l1.length : Int)) = false := beq_eq_false_iff_ne.mpr c3
  have c3b1 : ((l0.length : Int) != (l1.length : Int)) = true := bne_iff_ne.mpr c3
  have c3b2 : (l0.length == l1.length) = false := by first | simpa using c3 | (simp at c3 ⊢; omega)
  obtain rfl := Option.some.inj H
  go_enter Tryz.func46, Tryz.ntmps46
  go_wp2
  repeat (go_quiet (fail); try go_wp2)
  go_ret
  exact ⟨fR, by repeat (first | exact Drawn0.refl _ | apply Drawn0.step)⟩

end Go.Proofs.YtcpnmiempaofdaaGreat.G
