-- Printed by hp.py, a program of this session: a machine's side of laws, out of the translation; Lean checks it.
import Derived.Test.YtbmbplmcdbgnnaaQx0
import Derived.Test.YtbmbplmcdbgnnaaQx1
import Derived.Test.YtbmbplmcdbgnnaaQx2
import Derived.Test.YtbmbplmcdbgnnaaQx3
import Derived.Test.YtbmbplmcdbgnnaaQx6
namespace Go.Proofs.Ytbmbplmcdbgnnaa.Q
open Go.RowKit Go.Proofs.YtbmbplmcdbgnnaaW.PrintWords Go.Proofs.YtbmbplmcdbgnnaaW.PrintLast Go.Proofs.YtbmbplmcdbgnnaaW.PrintMore
attribute [local go_sem] max2_int min2_int max_two min_two max_three min_three max_four min_four   -- for this text's walks alone
set_option linter.unusedVariables false
set_option linter.unusedSimpArgs false

/-! ### spec_diAll: function 36 -/
theorem range_mul (m : Nat) : ∀ a : Nat, List.range (a * m) = (List.range a).flatMap (fun q => (List.range m).map (fun r => q * m + r))
  | 0 => by simp
  | a + 1 => by
    rw [Nat.succ_mul, List.range_add, range_mul m a, List.range_succ, List.flatMap_append]
    simp
theorem dcode_step (m k q r : Nat) (hr : r < m) : dcode m (k + 1) (q * m + r) = dcode m k q ++ [(r : Int)] := by
  have h0 : 0 < m := by omega
  have e1 : (q * m + r) / m = q := by rw [Nat.mul_comm, Nat.mul_add_div h0, Nat.div_eq_of_lt hr]; omega
  have e2 : (q * m + r) % m = r := by rw [Nat.mul_comm, Nat.mul_add_mod, Nat.mod_eq_of_lt hr]
  rw [dcode, e1, e2]
def dext (m : Nat) (c : List Int) : List (List Int) := (List.range m).map (fun (r : Nat) => c ++ [(r : Int)])
theorem dall_succ (m k : Nat) : dall m (k + 1) = (dall m k).flatMap (dext m) := by
  unfold dall dext
  rw [Nat.pow_succ, range_mul, List.map_flatMap, List.flatMap_map]
  congr 1
  funext q
  rw [List.map_map]
  apply List.map_congr_left
  intro r hr
  exact dcode_step m k q r (List.mem_range.mp hr)
def spec_diAll.f (a0 a1 : Int) : Option (List (List Int)) := if (1 ≤ a0 ∧ a0 ≤ 12) ∧ 0 ≤ a1 ∧ a1 ≤ 3 then some (dall a0.toNat a1.toNat) else none
theorem dall_few {m k : Nat} (hm : m ≤ 12) (hk : k ≤ 3) : (dall m k).length ≤ 1728 := by
  have h1 : m ^ k ≤ 12 ^ k := Nat.pow_le_pow_left hm k
  have h2 : 12 ^ k ≤ 12 ^ 3 := Nat.pow_le_pow_right (by omega) (by omega)
  simp [dall]
  omega
theorem flat_len {m : Nat} : ∀ xs : List (List Int), (xs.flatMap (dext m)).length = xs.length * m
  | [] => by simp
  | x :: xs => by rw [List.flatMap_cons, List.length_append, flat_len xs, List.length_cons, Nat.succ_mul]; simp [dext]; omega
theorem l1Own_ok (l : List Int) (h : l.length < 1000000) : spec_l1Own.f l = some l := by
  unfold spec_l1Own.f
  simp only [Option.bind_some, List.length_nil, Nat.zero_add, List.nil_append]
  rw [if_pos (by omega)]
set_option maxHeartbeats 8000000 in
set_option maxRecDepth 100000 in
theorem spec_diAll.calls (a0 a1 : Int) (r : List (List Int)) (w : World) (h : spec_diAll.f a0 a1 = some r) :
    Calls Try.prog 36 #[.int .i64 a0, .int .i64 a1] w fun e w' => ∃ v0_ : Value, e = .returned (v0_) ∧ Kd.N (Kd.slice 3 (Kd.int .i64)) 22 w' w.heap.size (fun k_ => (w.heap.size ≤ k_)) v0_ r ∧ Below w.heap.size w w' := by
  unfold spec_diAll.f at h
  by_cases hA : (1 ≤ a0 ∧ a0 ≤ 12) ∧ 0 ≤ a1 ∧ a1 ≤ 3
  case neg => rw [if_neg hA] at h; exact absurd h (by simp)
  rw [if_pos hA] at h
  obtain ⟨⟨hm1, hm2⟩, hk1, hk2⟩ := hA
  obtain ⟨m, rfl⟩ := Int.eq_ofNat_of_zero_le (show 0 ≤ a0 by omega)
  obtain ⟨k, rfl⟩ := Int.eq_ofNat_of_zero_le hk1
  simp only [Int.toNat_natCast, Option.some.injEq] at h
  subst h
  have hown : ∀ (A : Option Addr) (c : Nat) (l : List Int) (W : World), l.length < 1000000 → l.length ≤ c → Kd.C (Kd.int .i64) W A l.length l → Calls Try.prog 56 #[.slice A l.length c] W fun e w' => ∃ v0_ : Value, e = .returned (v0_) ∧ Kd.R (Kd.int .i64) 3 w' W.heap.size (fun _ => True) v0_ l ∧ Below W.heap.size W w' := fun A c l W h1 h2 h3 => spec_l1Own.calls A c l l W h3 h2 (l1Own_ok l h1)
  have hR0 : ∀ W : World, w.heap.size ≤ W.heap.size → Kd.R (Kd.slice 3 (Kd.int .i64)) 22 ((W.alloc (.cells #[] 3)).alloc (.cells #[.slice (some ⟨W.heap.size, 0, none⟩) 0 0] 22)) w.heap.size (fun k => w.heap.size ≤ k) (.slice (some ⟨W.heap.size + 1, 0, none⟩) 1 1) [[]] := by
    intro W hW
    have h1 := hw_R_lit0 W 3 w.heap.size (fun k => w.heap.size ≤ k) hW hW
    exact hw_R_lit (Kd.slice 3 (Kd.int .i64)) (W.alloc (.cells #[] 3)) 22 w.heap.size (W.heap.size + 1) (xs := [[]]) (inner := [.slice (some ⟨W.heap.size, 0, none⟩) 0 0]) (okp := fun k => w.heap.size ≤ k) (by simp) (Reps.one (Kd.M_row h1) (Reps.none _ _)) (fun _ h => h) (by simp; omega) (by simp; omega) (by simp)
  have HR0 := Aside0.mk (hR0 w (Nat.le_refl _))
  clear hR0
  have hin3 : (Try.prog.info? 3).map (fun i => (i.zero, i.size, i.bytes)) = some (some (.int .i64 0), 1, 8) := by kernel_rfl
  have hin22 : (Try.prog.info? 22).map (fun i => (i.zero, i.size, i.bytes)) = some (some (.slice none 0 0), 1, 24) := by kernel_rfl
  go_enter Try.func36, Try.ntmps36
  go_wp2
  go_loopg [1, 5] k (fun gg v1 v5 wr => ∃ (j q : Nat) (A5 : Option Addr) (c5 : Nat), v1 = .int .i64 (j : Int) ∧ v5 = .slice A5 (dall m q).length c5 ∧ j ≤ gg ∧ Aside0 (q + j = k) ∧ Aside0 (Kd.R (Kd.slice 3 (Kd.int .i64)) 22 wr w.heap.size (fun k => w.heap.size ≤ k) v5 (dall m q)) ∧ Aside0 (Below w.heap.size w wr))
  case atStart => exact ⟨k, 0, some ⟨w.heap.size + 1, 0, none⟩, 1, rfl, rfl, Nat.le_refl _, ⟨by omega⟩, ⟨HR0.out⟩, ⟨by repeat (first | exact Below.refl _ _ | apply below_alloc)⟩⟩
  case round =>
    obtain ⟨j, q, A5, c5, rfl, rfl, hj, HQ, HR, HB⟩ := hrel
    clear HR0
    cases j with
    | zero =>
      obtain rfl : q = k := by have := HQ.out; omega
      go_wp2
      go_ret
      exact ⟨_, rfl, Kd.R_N HR.out, HB.out⟩
    | succ j =>
      have hjp : (0 : Int) < ((j + 1 : Nat) : Int) := by omega
      have hj3 : j ≤ 3 := by have := HQ.out; omega
      have HLX := Aside0.mk (dall_few (m := m) (k := q) (by omega) (by have := HQ.out; omega))
      obtain ⟨xs, hxs⟩ : ∃ xs, xs = dall m q := ⟨_, rfl⟩
      have HXS := Aside0.mk hxs
      rw [← hxs] at HR HLX ⊢
      clear hxs
      obtain ⟨N0, hN0⟩ : ∃ N0, N0 = wr.heap.size := ⟨_, rfl⟩
      have HR5 := Aside0.mk (Kd.R_mono (Kd.R_bound HR.out) (ok' := fun k => w.heap.size ≤ k ∧ k < N0) (fun k hk => ⟨hk.1, by have := hk.2.2.1; omega⟩))
      have HS0 := Aside0.mk (show N0 ≤ wr.heap.size by omega)
      have HWN := Aside0.mk (show w.heap.size ≤ N0 by have := HB.out.size; omega)
      clear hN0
      clear HR
      have hlx : xs.length ≤ 1728 := HLX.out
      go_wp2
      go_loopg [6, 18] xs.length (fun gg v6 v18 wx => ∃ (i : Nat) (A6 : Option Addr) (c6 : Nat) (ys : List (List Int)), v18 = .int .i64 (i : Int) ∧ v6 = .slice A6 ys.length c6 ∧ i ≤ xs.length ∧ xs.length - i ≤ gg ∧ Aside0 (ys = (xs.take i).flatMap (dext m)) ∧ Aside0 (Kd.R (Kd.slice 3 (Kd.int .i64)) 22 wx w.heap.size (fun k => N0 ≤ k) v6 ys) ∧ Aside0 (Kd.R (Kd.slice 3 (Kd.int .i64)) 22 wx w.heap.size (fun k => w.heap.size ≤ k ∧ k < N0) (.slice A5 xs.length c5) xs) ∧ Aside0 (Below w.heap.size w wx) ∧ Aside0 (N0 ≤ wx.heap.size))
      case atStart => exact ⟨0, none, 0, [], rfl, rfl, by omega, by omega, ⟨by simp⟩, ⟨Kd.R_nil _ _ _ _ _⟩, HR5, HB, HS0⟩
      case round =>
        clear HR5 HS0
        obtain ⟨i, A6, c6, ys, rfl, rfl, hi, hgi, HY, HR6, HR5, HB2, HS⟩ := hrel
        by_cases hlt : i < xs.length
        · have hltz : (i : Int) < (xs.length : Int) := by omega
          obtain ⟨g5, cp5, e5, hg5, hg5b, _⟩ := Kd.R_form HR5.out (by omega)
          obtain ⟨rfl, rfl⟩ : A5 = some ⟨g5, 0, none⟩ ∧ c5 = cp5 := by injection e5 with a b c; exact ⟨a, c⟩
          obtain ⟨c, hcl, hM, hcc⟩ := Kd.R_get HR5.out [] (i : Int) (by omega) hltz
          obtain ⟨v8, rfl, hR8⟩ := hM
          have hx := hcc 0 v8 rfl
          rw [Int.toNat_natCast, show (Kd.slice 3 (Kd.int .i64)).sz = 1 from rfl, Nat.mul_one, Nat.add_zero, add_at, Nat.zero_add] at hx
          have hge : xs.getD (i : Int).toNat [] = xs[i] := by simp [List.getD, hlt]
          rw [hge] at hR8
          obtain ⟨A8, c8, rfl⟩ := Kd.R_slice hR8
          have HR8 := Aside0.mk (Kd.R_mono hR8 (ok' := fun k => w.heap.size ≤ k ∧ k < N0) (fun k hk => hk.1))
          have HL8 : Aside0 (xs[i].length = q) := ⟨by
            have hm : xs[i] ∈ dall m q := by rw [← HXS.out]; exact List.getElem_mem hlt
            unfold dall at hm
            obtain ⟨z, _, hz⟩ := List.mem_map.mp hm
            rw [← hz, dcode_len]⟩
          clear hR8 hcc hcl e5 hg5 hg5b hge
          have HX := Aside0.mk (show ys ++ (dext m xs[i]) = (xs.take (i + 1)).flatMap (dext m) by
            rw [List.take_succ_eq_append_getElem hlt, List.flatMap_append, HY.out]; simp)
          generalize xs[i] = x at hx HR8 HL8 HX
          go_wp2
          go_loopg [6, 9] m (fun gg v6 v9 wy => ∃ (j2 : Nat) (A6 : Option Addr) (c6 : Nat) (zs : List (List Int)), v9 = .int .i64 (j2 : Int) ∧ v6 = .slice A6 zs.length c6 ∧ j2 ≤ m ∧ m - j2 ≤ gg ∧ Aside0 (zs = ys ++ (List.range j2).map (fun (r : Nat) => x ++ [(r : Int)])) ∧ Aside0 (Kd.R (Kd.slice 3 (Kd.int .i64)) 22 wy w.heap.size (fun k => N0 ≤ k) v6 zs) ∧ Aside0 (Kd.R (Kd.slice 3 (Kd.int .i64)) 22 wy w.heap.size (fun k => w.heap.size ≤ k ∧ k < N0) (.slice (some ⟨g5, 0, none⟩) xs.length c5) xs) ∧ Aside0 (Kd.R (Kd.int .i64) 3 wy w.heap.size (fun k => w.heap.size ≤ k ∧ k < N0) (.slice A8 x.length c8) x) ∧ Aside0 (Below w.heap.size w wy) ∧ Aside0 (N0 ≤ wy.heap.size))
          case atStart => exact ⟨0, A6, c6, ys, rfl, rfl, by omega, by omega, ⟨by simp⟩, HR6, HR5, HR8, HB2, HS⟩
          case round =>
            clear HR6 HR5 HR8 HB2 HS
            obtain ⟨j2, A6, c6, zs, rfl, rfl, hj2, hgj, HZ, HR6, HR5, HR8, HB2, HS⟩ := hrel
            by_cases hlm : j2 < m
            · have hlmz : (j2 : Int) < (m : Int) := by omega
              have hx3 : x.length ≤ 3 := by have := HL8.out; have := HQ.out; omega
              have hown1 := hown A8 c8 x wr (by omega) (Kd.R_reads' HR8.out).2.1 (Kd.R_reads' HR8.out).2.2
              obtain ⟨N1, hN1⟩ : ∃ N1, N1 = wr.heap.size := ⟨_, rfl⟩
              have HN1 := Aside0.mk hN1
              have H6 := Aside0.mk (Kd.R_mono (Kd.R_bound HR6.out) (ok' := fun k => N0 ≤ k ∧ k < N1) (fun k hk => ⟨hk.1, by have := hk.2.2.1; omega⟩))
              have H6l := Aside0.mk (show ∀ k, N1 ≤ k → some k ≠ (Value.slice A6 zs.length c6).ownBlock from fun k hk he => by have := Kd.R_lt HR6.out k he.symm; omega)
              have HZS := Aside0.mk (show zs.length ≤ 1728 * 12 + 12 by
                have h1 : ys.length ≤ 1728 * 12 := by
                  rw [HY.out, flat_len]
                  exact Nat.mul_le_mul (by rw [List.length_take]; omega) (by omega)
                have h2 := HZ.out
                rw [h2]
                simp
                omega)
              obtain ⟨y, hy⟩ : ∃ y, y = x ++ [(j2 : Int)] := ⟨_, rfl⟩
              have HYY := Aside0.mk hy
              clear hN1 HR6 hown hy
              go_wp2_with (first | (go_at_call 56; go_loud (refine hown1.mono ?_; rintro e w1 ⟨v29, rfl, hr, hb⟩; obtain ⟨A29, c29, rfl⟩ := Kd.R_slice hr; have J29 := Aside0.mk (Kd.R_lower (Kd.R_mono (Kd.R_bound hr) (ok' := fun k => N1 ≤ k) (fun k hk => by have := hk.2.1; have := HN1.out; omega)) (show w.heap.size ≤ wr.heap.size by have := HB2.out.size; omega)); have J6 := Aside0.mk (Kd.R_below H6.out hb); have J5 := Aside0.mk (Kd.R_below HR5.out hb); have J8 := Aside0.mk (Kd.R_below HR8.out hb); have JB := Aside0.mk (below_then HB2.out HB2.out.size hb); have JS := Aside0.mk (show N1 ≤ w1.heap.size by have := hb.size; have := HN1.out; omega); clear hr hb)) | ((with_reducible refine gate_builtin (b := .append) (xs := #[.tmp 29, .tmp 31]) rfl ?_); at_builtin; go_loud (refine Kd.R_append (Kd.int .i64) (w0 := w) w.heap.size rfl (.tmp 29) (.tmp 31) 22 3 (.int .i64 0) 8 rfl Try.underlying22 hin3 rfl (by decide) (by omega) (.slice A29 x.length c29) x (j2 : Int) [.int .i64 j2] (fun k => N1 ≤ k) (fun _ => False) rfl rfl ?aP (fun _ hk => hk.elim) ?aF ?aO ?aB ?aS ?aL ?_; (case aP => exact rfl); (case aB => exact JB.out); (case aF => exact fun k hk => Nat.le_trans JS.out hk); (case aO => exact J29.out); (case aS => exact JB.out.size); (case aL => omega); intro v32 w2 ho hb hg hat; rw [← HYY.out] at ho; have hne : ∀ k, k < N1 → some k ≠ (Value.slice A29 x.length c29).ownBlock := (fun k hk he => by have := J29.out.1 k he.symm; omega); have K6 := Aside0.mk (Kd.R_grown J6.out hg (fun k hk => hne k hk.2)); have K5 := Aside0.mk (Kd.R_grown J5.out hg (fun k hk => hne k (by have := HS.out; have := HN1.out; omega))); have K8 := Aside0.mk (Kd.R_grown J8.out hg (fun k hk => hne k (by have := HS.out; have := HN1.out; omega))); obtain ⟨A32, c32, rfl⟩ := Kd.R_slice ho; have K32 := Aside0.mk ho; have KB := Aside0.mk hb; have KS := Aside0.mk (show N1 ≤ w2.heap.size by have := hg.size; have := JS.out; omega); clear ho hb hg hat hne)) | ((with_reducible refine gate_builtin (b := .append) (xs := #[.tmp 27, .tmp 33]) rfl ?_); at_builtin; go_loud (refine Kd.R_append (Kd.slice 3 (Kd.int .i64)) (w0 := w) w.heap.size rfl (.tmp 27) (.tmp 33) 43 22 (.slice none 0 0) 24 rfl Try.underlying43 hin22 rfl (by decide) (by omega) (.slice A6 zs.length c6) zs y [.slice A32 y.length c32] (fun k => N0 ≤ k) (fun k => N1 ≤ k) rfl rfl ?aP ?aK ?aF ?aO ?aB ?aS ?aL ?_; (case aP => exact Kd.M_row K32.out); (case aK => exact fun k hk => ⟨by have := HS.out; have := HN1.out; omega, H6l.out k hk⟩); (case aB => exact KB.out); (case aF => exact fun k hk => by have := KS.out; have := HS.out; have := HN1.out; omega); (case aO => exact Kd.R_mono K6.out (fun k hk => hk.1)); (case aS => exact KB.out.size); (case aL => have := HZS.out; omega); intro v34 w3 ho hb hg hat; have hne : ∀ k, k < N0 → some k ≠ (Value.slice A6 zs.length c6).ownBlock := (fun k hk he => by have := K6.out.1 k he.symm; omega); have L5 := Aside0.mk (Kd.R_grown K5.out hg (fun k hk => hne k hk.2)); have L8 := Aside0.mk (Kd.R_grown K8.out hg (fun k hk => hne k hk.2)); obtain ⟨A34, c34, rfl⟩ := Kd.R_slice ho; have L34 := Aside0.mk ho; have LB := Aside0.mk hb; have LS := Aside0.mk (show N0 ≤ w3.heap.size by have := hg.size; have := KS.out; have := HS.out; have := HN1.out; omega); clear ho hb hg hat hne)))
              go_roundg (m - (j2 + 1))
              case measure => omega
              case rel =>
                refine ⟨j2 + 1, A34, c34, zs ++ [y], by go_num, by rw [List.length_append]; rfl, by omega, by omega, ⟨?_⟩, ⟨by have := L34.out; rw [List.length_append] at this; exact this⟩, L5, L8, LB, LS⟩
                rw [HZ.out, HYY.out, List.range_succ, List.map_append]
                simp
            · obtain rfl : j2 = m := by omega
              have hlmz : ¬ (j2 : Int) < (j2 : Int) := by omega
              have HX2 := Aside0.mk (show zs = (xs.take (i + 1)).flatMap (dext j2) by rw [← HX.out, HZ.out]; rfl)
              clear hown
              go_wp2
              go_roundg (xs.length - (i + 1))
              case measure => omega
              case rel => exact ⟨i + 1, A6, c6, zs, by go_num, rfl, by omega, by omega, HX2, HR6, HR5, HB2, HS⟩
        · obtain rfl : i = xs.length := by omega
          have hltz : ¬ (xs.length : Int) < (xs.length : Int) := by omega
          have HX2 := Aside0.mk (show ys = dall m (q + 1) by rw [HY.out, List.take_length, dall_succ, HXS.out])
          have HR6' := Aside0.mk (Kd.R_mono HR6.out (ok' := fun k => w.heap.size ≤ k) (fun k hk => by have := HWN.out; omega))
          rw [HX2.out] at HR6' ⊢
          clear hown HR6 HY
          go_wp2
          go_roundg j
          case measure => omega
          case rel => exact ⟨j, q + 1, A6, c6, by go_num, rfl, by omega, ⟨by have := HQ.out; omega⟩, HR6', HB2⟩

/-! ### spec_CountByLength: function 16 -/
mutual
def spec_CountByLength.j0 : Nat → Int → Int → Int → Int → Bool → Option (Int × Bool)
  | 0, _, _, _, _, _ => none
  | k + 1, x0, x1, x2, x3, x22 => if x22 = true then (some (0, false)) else ((spec_diAll.f x0 x2).bind fun t302 => (spec_CountByLength.l0 k x0 x1 x3 0 t302 (t302.length : Int) 0))
def spec_CountByLength.l0 : Nat → Int → Int → Int → Int → List (List Int) → Int → Int → Option (Int × Bool)
  | 0, _, _, _, _, _, _, _ => none
  | k + 1, x0, x1, x3, x10, x25, x26, x27 => if x27 < x26 then (if 0 ≤ x27 then (if x27 < (x25.length : Int) then ((spec_diOpen.f k x0 x1 (rd_L1 x25 x27)).bind fun t306 => ((spec_diLength.f k t306).bind fun t309 => (if t309 = x3 then (spec_CountByLength.l0 k x0 x1 x3 (wrap64 (x10 + 1)) x25 x26 (wrap64 (x27 + 1))) else (spec_CountByLength.l0 k x0 x1 x3 x10 x25 x26 (wrap64 (x27 + 1)))))) else (none)) else (none)) else (some (x10, true))
end
def spec_CountByLength.f (k : Nat) (a0 : Int) (a1 : Int) (a2 : Int) (a3 : Int) : Option (Int × Bool) := (spec_diFew.f a0 a1 a2).bind fun t300 => (if t300 = true then ((spec_l1In.f a3 0 10000).bind fun t301 => (spec_CountByLength.j0 k a0 a1 a2 a3 (!t301))) else (spec_CountByLength.j0 k a0 a1 a2 a3 true))
theorem spec_CountByLength.mono_l : ∀ k, (∀ y0 y1 y2 y3 y4, LeO (spec_CountByLength.j0 k y0 y1 y2 y3 y4) (spec_CountByLength.j0 (k + 1) y0 y1 y2 y3 y4)) ∧ (∀ y0 y1 y2 y3 y4 y5 y6, LeO (spec_CountByLength.l0 k y0 y1 y2 y3 y4 y5 y6) (spec_CountByLength.l0 (k + 1) y0 y1 y2 y3 y4 y5 y6))
  | 0 => ⟨fun _ _ _ _ _ r h => by simp [spec_CountByLength.j0] at h, fun _ _ _ _ _ _ _ r h => by simp [spec_CountByLength.l0] at h⟩
  | k + 1 => by
    obtain ⟨ih0, ih1⟩ := spec_CountByLength.mono_l k
    refine ⟨?_, ?_⟩
    · intro y0 y1 y2 y3 y4
      unfold spec_CountByLength.j0
      repeat' first
      | (with_reducible exact ih0 _ _ _ _ _)
      | (with_reducible exact ih1 _ _ _ _ _ _ _)
      | (with_reducible exact spec_diLength.mono _ _)
      | (with_reducible exact spec_diOpen.mono _ _ _ _)
      | (with_reducible exact LeO.refl _)
      | (with_reducible exact LeO.none _)
      | (with_reducible refine LeO.ite ?_ ?_)
      | (with_reducible refine LeO.bind ?_ (fun _ => ?_))
      | exact ih0 _ _ _ _ _
      | exact ih1 _ _ _ _ _ _ _
      | exact spec_diLength.mono _ _
      | exact spec_diOpen.mono _ _ _ _
      | exact LeO.none _
      | refine LeO.ite ?_ ?_
      | refine LeO.bind ?_ (fun _ => ?_)
    · intro y0 y1 y2 y3 y4 y5 y6
      unfold spec_CountByLength.l0
      repeat' first
      | (with_reducible exact ih0 _ _ _ _ _)
      | (with_reducible exact ih1 _ _ _ _ _ _ _)
      | (with_reducible exact spec_diLength.mono _ _)
      | (with_reducible exact spec_diOpen.mono _ _ _ _)
      | (with_reducible exact LeO.refl _)
      | (with_reducible exact LeO.none _)
      | (with_reducible refine LeO.ite ?_ ?_)
      | (with_reducible refine LeO.bind ?_ (fun _ => ?_))
      | exact ih0 _ _ _ _ _
      | exact ih1 _ _ _ _ _ _ _
      | exact spec_diLength.mono _ _
      | exact spec_diOpen.mono _ _ _ _
      | exact LeO.none _
      | refine LeO.ite ?_ ?_
      | refine LeO.bind ?_ (fun _ => ?_)
theorem spec_CountByLength.mono : ∀ a0 a1 a2 a3 k, LeO (spec_CountByLength.f k a0 a1 a2 a3) (spec_CountByLength.f (k + 1) a0 a1 a2 a3) := by
  intro a0 a1 a2 a3 k
  obtain ⟨ih0, ih1⟩ := spec_CountByLength.mono_l k
  unfold spec_CountByLength.f
  repeat' first
      | (with_reducible exact ih0 _ _ _ _ _)
      | (with_reducible exact ih1 _ _ _ _ _ _ _)
      | (with_reducible exact spec_diLength.mono _ _)
      | (with_reducible exact spec_diOpen.mono _ _ _ _)
      | (with_reducible exact LeO.refl _)
      | (with_reducible exact LeO.none _)
      | (with_reducible refine LeO.ite ?_ ?_)
      | (with_reducible refine LeO.bind ?_ (fun _ => ?_))
      | exact ih0 _ _ _ _ _
      | exact ih1 _ _ _ _ _ _ _
      | exact spec_diLength.mono _ _
      | exact spec_diOpen.mono _ _ _ _
      | exact LeO.none _
      | refine LeO.ite ?_ ?_
      | refine LeO.bind ?_ (fun _ => ?_)
set_option maxHeartbeats 8000000 in
set_option maxRecDepth 100000 in
theorem spec_CountByLength.calls (k : Nat) (a0 : Int) (a1 : Int) (a2 : Int) (a3 : Int) (r1 : Int) (r2 : Bool) (w : World) (h : spec_CountByLength.f k a0 a1 a2 a3 = some (r1, r2)) :
    Calls Try.prog 16 #[.int .i64 a0, .int .i64 a1, .int .i64 a2, .int .i64 a3] w fun e w' => e = .returned (.tuple #[.int .i64 r1, .bool r2]) ∧ Below w.heap.size w w' := by
  have HB := Aside0.mk (Below.refl w.heap.size w)
  have H : ((spec_diFew.f a0 a1 a2).bind fun t300 => (if t300 = true then ((spec_l1In.f a3 0 10000).bind fun t301 => (spec_CountByLength.j0 k a0 a1 a2 a3 (!t301))) else (spec_CountByLength.j0 k a0 a1 a2 a3 true))) = some (r1, r2) := h
  clear h
  have HC5 := Aside0.mk H
  clear H
  go_enter Try.func16, Try.ntmps16
  go_upto_region 1 with (fail)
  go_cut [22] (fun v22 wc => ∃ (kq : Nat) (x22_4 : Bool), v22 = .bool x22_4 ∧ Aside0 (spec_CountByLength.j0 kq a0 a1 a2 a3 x22_4 = some (r1, r2)) ∧ Aside0 (kq ≤ k) ∧ Aside0 (Below w.heap.size w wc))
  case first =>
    have H := HC5.out
    clear HC5
    replace H := Option.bind_eq_some_iff.mp H
    obtain ⟨t300, A60, H⟩ := H
    replace H : (if t300 = true then ((spec_l1In.f a3 0 10000).bind fun t301 => (spec_CountByLength.j0 k a0 a1 a2 a3 (!t301))) else (spec_CountByLength.j0 k a0 a1 a2 a3 true)) = some (r1, r2) := H
    have A6 := Aside0.mk A60
    clear A60
    by_cases c7 : t300 = true
    · subst c7
      have H1 : ((spec_l1In.f a3 0 10000).bind fun t301 => (spec_CountByLength.j0 k a0 a1 a2 a3 (!t301))) = some (r1, r2) := by rw [if_pos rfl] at H; exact H
      clear H
      have H := H1
      clear H1
      replace H := Option.bind_eq_some_iff.mp H
      obtain ⟨t301, A80, H⟩ := H
      replace H : (spec_CountByLength.j0 k a0 a1 a2 a3 (!t301)) = some (r1, r2) := H
      have A8 := Aside0.mk A80
      clear A80
      have H' := Aside0.mk H
      clear H
      go_wp2_with (first | ((with_reducible refine gate_callee (f := 34) rfl ?_); refine goesL_ (some 16) rfl rfl Try.func34 (by kernel_rfl) rfl #[.int .i64 a0, .int .i64 a1, .int .i64 a2] rfl (by (try simp only [List.map_toArray, List.map_cons, List.map_nil]); first | done | rfl | (simp only [List.length_drop, List.length_take]; rfl)) ?_; (with_reducible refine (spec_diFew.calls a0 a1 a2 true _ A6.out).mono ?_); rintro e w' ⟨rfl, ⟨nd, rfl⟩⟩; refine ⟨_, rfl, ?_⟩) | (go_at_call 35; (with_reducible refine (spec_l1In.calls a3 0 10000 t301 _ A8.out).mono ?_); rintro e w' ⟨rfl, ⟨nd, rfl⟩⟩))
      go_meet
      case rel => exact ⟨_, (!t301), (by first | rfl | (simp; done) | (simp [*]; done)), H', ⟨by first | omega | exact Nat.le_refl _⟩, ⟨by repeat (first | (with_reducible first | exact HB.out | apply below_alloc | apply pw_below_drewN | apply below_drew1) | exact HB.out)⟩⟩
    · replace c7 := Bool.eq_false_iff.mpr c7
      subst c7
      have H1 : (spec_CountByLength.j0 k a0 a1 a2 a3 true) = some (r1, r2) := by rw [if_neg (show ¬ (false = true) by decide)] at H; exact H
      clear H
      have H := H1
      clear H1
      have H' := Aside0.mk H
      clear H
      go_wp2_with (first | ((with_reducible refine gate_callee (f := 34) rfl ?_); refine goesL_ (some 16) rfl rfl Try.func34 (by kernel_rfl) rfl #[.int .i64 a0, .int .i64 a1, .int .i64 a2] rfl (by (try simp only [List.map_toArray, List.map_cons, List.map_nil]); first | done | rfl | (simp only [List.length_drop, List.length_take]; rfl)) ?_; (with_reducible refine (spec_diFew.calls a0 a1 a2 false _ A6.out).mono ?_); rintro e w' ⟨rfl, ⟨nd, rfl⟩⟩; refine ⟨_, rfl, ?_⟩))
      go_meet
      case rel => exact ⟨_, (true), (by first | rfl | (simp; done) | (simp [*]; done)), H', ⟨by first | omega | exact Nat.le_refl _⟩, ⟨by repeat (first | (with_reducible first | exact HB.out | apply below_alloc | apply pw_below_drewN | apply below_drew1) | exact HB.out)⟩⟩
  case rest =>
    clear HC5
    try clear c1
    try clear p2
    try clear c3
    try clear c7
    obtain ⟨kq, x22_4, rfl, HA, HJ4, HB⟩ := hcut
    cases kq with
    | zero => exact absurd HA.out (by simp [spec_CountByLength.j0])
    | succ kj4 =>
      have H := HA.out
      clear HA
      simp only [spec_CountByLength.j0] at H
      by_cases c9 : x22_4 = true
      · subst c9
        have H1 : (some (0, false)) = some (r1, r2) := by rw [if_pos rfl] at H; exact H
        clear H
        have H := H1
        clear H1
        simp only [Option.some.injEq, Prod.mk.injEq] at H
        obtain ⟨rfl, rfl⟩ := H
        go_wp2
        go_ret2
        exact ⟨by first | rfl | (simp [errW_none, errW_some] <;> rfl) | (simp [*, errW_none, errW_some] <;> rfl), by repeat (first | (with_reducible first | exact HB.out | apply below_alloc | apply pw_below_drewN | apply below_drew1) | exact HB.out)⟩
      · replace c9 := Bool.eq_false_iff.mpr c9
        subst c9
        have H1 : ((spec_diAll.f a0 a2).bind fun t302 => (spec_CountByLength.l0 kj4 a0 a1 a3 0 t302 (t302.length : Int) 0)) = some (r1, r2) := by rw [if_neg (show ¬ (false = true) by decide)] at H; exact H
        clear H
        have H := H1
        clear H1
        replace H := Option.bind_eq_some_iff.mp H
        obtain ⟨t302, A100, H⟩ := H
        replace H : (spec_CountByLength.l0 kj4 a0 a1 a3 0 t302 (t302.length : Int) 0) = some (r1, r2) := H
        have A10 := Aside0.mk A100
        clear A100
        have H' := Aside0.mk H
        clear H
        go_wp2_with (first | ((with_reducible refine gate_callee (f := 36) rfl ?_); refine goesL_ (some 25) rfl rfl Try.func36 (by kernel_rfl) rfl #[.int .i64 a0, .int .i64 a2] rfl (by (try simp only [List.map_toArray, List.map_cons, List.map_nil]); first | done | rfl | (simp only [List.length_drop, List.length_take]; rfl)) ?_; (with_reducible refine (spec_diAll.calls a0 a2 t302 _ A10.out).mono ?_); rintro e w11 ⟨v303, rfl, ho0, hb⟩; refine ⟨_, rfl, ?_⟩; have n0_ := Aside0.mk (Kd.N_lower (Kd.N_mono (ok' := fun k_ => True) ho0 (fun k_ hk_ => trivial)) (below_size (by repeat (first | (with_reducible first | exact HB.out | apply below_alloc | apply pw_below_drewN | apply below_drew1) | exact HB.out)))); have n1_ := Aside0.mk (below_step (by repeat (first | (with_reducible first | exact HB.out | apply below_alloc | apply pw_below_drewN | apply below_drew1) | exact HB.out)) hb); clear HB; have HO304 := n0_; have HB := n1_; clear n0_ n1_; (try clear hb); (try clear hb2); (try clear hk); (try clear hi); (try clear ho0); obtain ⟨Ao12, co12, eo12⟩ := Kd.N_slice HO304.out; subst eo12))
        go_loopg [10, 27] kj4 (fun kq v10 v27 w' => ∃ (x10_2 : Int) (x27_2 : Int), v10 = .int .i64 x10_2 ∧ v27 = .int .i64 x27_2 ∧ Aside0 (spec_CountByLength.l0 kq a0 a1 a3 x10_2 t302 (t302.length : Int) x27_2 = some (r1, r2)) ∧ Aside0 (kq ≤ kj4) ∧ Aside0 (Kd.N (Kd.slice 3 (Kd.int .i64)) 22 w' w.heap.size (fun _ => True) (.slice Ao12 t302.length co12) t302) ∧ Aside0 (Below w.heap.size w w'))
        case atStart => exact ⟨(0), (0), (by first | rfl | (simp; done) | (simp [*]; done)), (by first | rfl | (simp; done) | (simp [*]; done)), H', ⟨Nat.le_refl _⟩, ⟨by (with_reducible repeat (first | apply Kd.N_alloc | apply Kd.N_drewN | apply Kd.N_drew)); exact HO304.out⟩, ⟨by repeat (first | (with_reducible first | exact HB.out | apply below_alloc | apply pw_below_drewN | apply below_drew1) | exact HB.out)⟩⟩
        case round =>
          clear H'
          try clear c1
          try clear p2
          try clear c3
          try clear c7
          try clear c9
          try clear p2
          obtain ⟨x10_2, x27_2, rfl, rfl, HA, HK2, HO_25, HB⟩ := hrel
          cases gk with
          | zero => exact absurd HA.out (by simp [spec_CountByLength.l0])
          | succ k2 =>
            have H := HA.out
            clear HA
            simp only [spec_CountByLength.l0] at H
            by_cases c13 : x27_2 < (t302.length : Int)
            · rw [if_pos c13] at H
              have c13b0 : decide (x27_2 < (t302.length : Int)) = true := decide_eq_true c13
              clear c13
              by_cases c14 : 0 ≤ x27_2
              · rw [if_pos c14] at H
                have c14b0 : decide (0 ≤ x27_2) = true := decide_eq_true c14
                clear c14
                by_cases c15 : x27_2 < (t302.length : Int)
                · rw [if_pos c15] at H
                  have c15b0 : decide (x27_2 < (t302.length : Int)) = true := decide_eq_true c15
                  clear c15
                  replace H := Option.bind_eq_some_iff.mp H
                  obtain ⟨t306, A160, H⟩ := H
                  replace H : ((spec_diLength.f k2 t306).bind fun t309 => (if t309 = a3 then (spec_CountByLength.l0 k2 a0 a1 a3 (wrap64 (x10_2 + 1)) t302 (t302.length : Int) (wrap64 (x27_2 + 1))) else (spec_CountByLength.l0 k2 a0 a1 a3 x10_2 t302 (t302.length : Int) (wrap64 (x27_2 + 1))))) = some (r1, r2) := H
                  have A16 := Aside0.mk A160
                  clear A160
                  replace H := Option.bind_eq_some_iff.mp H
                  obtain ⟨t309, A170, H⟩ := H
                  replace H : (if t309 = a3 then (spec_CountByLength.l0 k2 a0 a1 a3 (wrap64 (x10_2 + 1)) t302 (t302.length : Int) (wrap64 (x27_2 + 1))) else (spec_CountByLength.l0 k2 a0 a1 a3 x10_2 t302 (t302.length : Int) (wrap64 (x27_2 + 1)))) = some (r1, r2) := H
                  have A17 := Aside0.mk A170
                  clear A170
                  by_cases c18 : t309 = a3
                  · rw [if_pos c18] at H
                    have c18b0 : (t309 == a3) = true := beq_iff_eq.mpr c18
                    have c18b1 : (t309 != a3) = false := bne_eq_false_iff_eq.mpr c18
                    clear c18
                    have H' := Aside0.mk H
                    clear H
                    have p305 : 0 ≤ (x27_2 : Int) := of_decide_eq_true (by first | (with_reducible assumption) | assumption)
                    have q305 : x27_2 < (t302.length : Int) := of_decide_eq_true (by first | (with_reducible assumption) | assumption)
                    obtain ⟨ad305, A305_0, c305_0, e305, hx305_0, hl305_0, hi305_0⟩ := at_L1 (Kd.N_reads' HO_25.out).2.2 x27_2 p305 q305
                    cases e305
                    obtain ⟨ce305, hce305, hMe305, hcc305⟩ := Kd.N_get HO_25.out [] x27_2 p305 (by first | exact q305 | exact of_decide_eq_true (by first | (with_reducible assumption) | assumption) | (have e_ := (Kd.N_reads' HO_25.out).1; omega))
                    obtain ⟨ua305_0, uc305_0, rfl, ul305_0, ge305_0⟩ := Kd.FK_slice_open hMe305
                    have hv305_0 := hcc305 0 _ rfl
                    rw [Nat.add_zero, show ((Kd.slice 3 (Kd.int .i64))).sz = 1 from rfl, Nat.mul_one] at hv305_0
                    replace hv305_0 := Option.some.inj (hv305_0.symm.trans hx305_0)
                    injection hv305_0 with hva_ hvn_ hvc_
                    rw [hva_] at ge305_0
                    rw [hvc_] at ul305_0
                    have HL305_0 := Aside0.mk (show Kd.V (Kd.int .i64) 3 _ w.heap.size _ _ (rd_L1 t302 x27_2) from Kd.V_mk ul305_0 ge305_0)
                    clear hva_ hvn_ hvc_ ge305_0 ul305_0
                    clear hcc305 hce305
                    have HR305_0 := Aside0.mk hi305_0
                    have HC305_0 := Aside0.mk hl305_0
                    clear hi305_0 hl305_0
                    replace p305 := eq_true p305
                    replace q305 := eq_true q305
                    go_wp2_with (first | ((with_reducible refine gate_callee (f := 30) rfl ?_); refine goesL_ (some 34) rfl rfl Try.func30 (by kernel_rfl) rfl #[.int .i64 a0, .int .i64 a1, .slice A305_0 (rd_L1 t302 x27_2).length c305_0] rfl (by (try simp only [List.map_toArray, List.map_cons, List.map_nil]); first | done | rfl | (simp only [List.length_drop, List.length_take]; rfl)) ?_; (with_reducible refine (spec_diOpen.calls k2 a0 a1 _ _ (rd_L1 t302 x27_2) t306 _ ?side1 ?side2 A16.out).mono ?_); (case side1 => repeat (first | exact (by repeat (first | (with_reducible exact HR305_0.out) | (with_reducible refine Kd.C_alloc ?_ _) | (with_reducible refine Kd.C_drewN ?_ _) | (with_reducible refine Kd.C_drew ?_) | exact HR305_0.out)) | (with_reducible refine Kd.C_alloc ?_ _) | (with_reducible refine Kd.C_drewN ?_ _) | (with_reducible refine Kd.C_drew ?_))); (case side2 => exact HC305_0.out); rintro e w19 ⟨v307, rfl, ho0, hb⟩; refine ⟨_, rfl, ?_⟩; have n0_ := Aside0.mk (Kd.N_elder' (by (with_reducible repeat (first | apply Kd.N_alloc | apply Kd.N_drewN | apply Kd.N_drew)); exact HO_25.out) (Kd.R_base ho0) hb); have n1_ := Aside0.mk (Kd.V_elder' (by (with_reducible repeat (first | apply Kd.V_alloc | apply Kd.V_drewN | apply Kd.V_drew)); exact HL305_0.out) (Kd.R_base ho0) hb); have n2_ := Aside0.mk (Kd.R_lower ho0 (below_size (by repeat (first | (with_reducible first | exact HB.out | apply below_alloc | apply pw_below_drewN | apply below_drew1) | exact HB.out)))); have n3_ := Aside0.mk (Kd.C_below (by repeat (first | (with_reducible exact HR305_0.out) | (with_reducible refine Kd.C_alloc ?_ _) | (with_reducible refine Kd.C_drewN ?_ _) | (with_reducible refine Kd.C_drew ?_) | exact HR305_0.out)) hb); have n4_ := Aside0.mk (below_step (by repeat (first | (with_reducible first | exact HB.out | apply below_alloc | apply pw_below_drewN | apply below_drew1) | exact HB.out)) hb); clear HO_25; clear HL305_0; clear HR305_0; clear HB; have HO_25 := n0_; have HL305_0 := n1_; have HO308 := n2_; have HR305_0 := n3_; have HB := n4_; clear n0_ n1_ n2_ n3_ n4_; (try clear hb); (try clear hb2); (try clear hk); (try clear hi); (try clear ho0); obtain ⟨Ao20, co20, eo20⟩ := Kd.R_slice HO308.out; subst eo20) | ((with_reducible refine gate_callee (f := 37) rfl ?_); refine goesL_ (some 35) rfl rfl Try.func37 (by kernel_rfl) rfl #[.slice Ao20 t306.length co20] rfl (by (try simp only [List.map_toArray, List.map_cons, List.map_nil]); first | done | rfl | (simp only [List.length_drop, List.length_take]; rfl)) ?_; (with_reducible refine (spec_diLength.calls k2 _ _ t306 t309 _ ?side1 ?side2 A17.out).mono ?_); (case side1 => repeat (first | exact (Kd.R_reads' HO308.out).2.2 | (with_reducible refine Kd.C_alloc ?_ _) | (with_reducible refine Kd.C_drewN ?_ _) | (with_reducible refine Kd.C_drew ?_))); (case side2 => exact (Kd.R_reads' HO308.out).2.1); rintro e w' ⟨rfl, ⟨nd, rfl⟩⟩; refine ⟨_, rfl, ?_⟩))
                    go_roundg k2
                    case measure => have := HJ4.out; have := HK2.out; omega
                    case rel => exact ⟨(wrap64 (x10_2 + 1)), (wrap64 (x27_2 + 1)), (by first | rfl | (simp; done) | (simp [*]; done)), (by first | rfl | (simp; done) | (simp [*]; done)), H', ⟨by have := HJ4.out; have := HK2.out; omega⟩, ⟨by (with_reducible repeat (first | apply Kd.N_alloc | apply Kd.N_drewN | apply Kd.N_drew)); exact Kd.N_mono HO_25.out (fun _ hk => trivial)⟩, ⟨by repeat (first | (with_reducible first | exact HB.out | apply below_alloc | apply pw_below_drewN | apply below_drew1) | exact HB.out)⟩⟩
                  · rw [if_neg c18] at H
                    have c18b0 : (t309 == a3) = false := beq_eq_false_iff_ne.mpr c18
                    have c18b1 : (t309 != a3) = true := bne_iff_ne.mpr c18
                    have H' := Aside0.mk H
                    clear H
                    have p305 : 0 ≤ (x27_2 : Int) := of_decide_eq_true (by first | (with_reducible assumption) | assumption)
                    have q305 : x27_2 < (t302.length : Int) := of_decide_eq_true (by first | (with_reducible assumption) | assumption)
                    obtain ⟨ad305, A305_0, c305_0, e305, hx305_0, hl305_0, hi305_0⟩ := at_L1 (Kd.N_reads' HO_25.out).2.2 x27_2 p305 q305
                    cases e305
                    obtain ⟨ce305, hce305, hMe305, hcc305⟩ := Kd.N_get HO_25.out [] x27_2 p305 (by first | exact q305 | exact of_decide_eq_true (by first | (with_reducible assumption) | assumption) | (have e_ := (Kd.N_reads' HO_25.out).1; omega))
                    obtain ⟨ua305_0, uc305_0, rfl, ul305_0, ge305_0⟩ := Kd.FK_slice_open hMe305
                    have hv305_0 := hcc305 0 _ rfl
                    rw [Nat.add_zero, show ((Kd.slice 3 (Kd.int .i64))).sz = 1 from rfl, Nat.mul_one] at hv305_0
                    replace hv305_0 := Option.some.inj (hv305_0.symm.trans hx305_0)
                    injection hv305_0 with hva_ hvn_ hvc_
                    rw [hva_] at ge305_0
                    rw [hvc_] at ul305_0
                    have HL305_0 := Aside0.mk (show Kd.V (Kd.int .i64) 3 _ w.heap.size _ _ (rd_L1 t302 x27_2) from Kd.V_mk ul305_0 ge305_0)
                    clear hva_ hvn_ hvc_ ge305_0 ul305_0
                    clear hcc305 hce305
                    have HR305_0 := Aside0.mk hi305_0
                    have HC305_0 := Aside0.mk hl305_0
                    clear hi305_0 hl305_0
                    replace p305 := eq_true p305
                    replace q305 := eq_true q305
                    go_wp2_with (first | ((with_reducible refine gate_callee (f := 30) rfl ?_); refine goesL_ (some 34) rfl rfl Try.func30 (by kernel_rfl) rfl #[.int .i64 a0, .int .i64 a1, .slice A305_0 (rd_L1 t302 x27_2).length c305_0] rfl (by (try simp only [List.map_toArray, List.map_cons, List.map_nil]); first | done | rfl | (simp only [List.length_drop, List.length_take]; rfl)) ?_; (with_reducible refine (spec_diOpen.calls k2 a0 a1 _ _ (rd_L1 t302 x27_2) t306 _ ?side1 ?side2 A16.out).mono ?_); (case side1 => repeat (first | exact (by repeat (first | (with_reducible exact HR305_0.out) | (with_reducible refine Kd.C_alloc ?_ _) | (with_reducible refine Kd.C_drewN ?_ _) | (with_reducible refine Kd.C_drew ?_) | exact HR305_0.out)) | (with_reducible refine Kd.C_alloc ?_ _) | (with_reducible refine Kd.C_drewN ?_ _) | (with_reducible refine Kd.C_drew ?_))); (case side2 => exact HC305_0.out); rintro e w21 ⟨v307, rfl, ho0, hb⟩; refine ⟨_, rfl, ?_⟩; have n0_ := Aside0.mk (Kd.N_elder' (by (with_reducible repeat (first | apply Kd.N_alloc | apply Kd.N_drewN | apply Kd.N_drew)); exact HO_25.out) (Kd.R_base ho0) hb); have n1_ := Aside0.mk (Kd.V_elder' (by (with_reducible repeat (first | apply Kd.V_alloc | apply Kd.V_drewN | apply Kd.V_drew)); exact HL305_0.out) (Kd.R_base ho0) hb); have n2_ := Aside0.mk (Kd.R_lower ho0 (below_size (by repeat (first | (with_reducible first | exact HB.out | apply below_alloc | apply pw_below_drewN | apply below_drew1) | exact HB.out)))); have n3_ := Aside0.mk (Kd.C_below (by repeat (first | (with_reducible exact HR305_0.out) | (with_reducible refine Kd.C_alloc ?_ _) | (with_reducible refine Kd.C_drewN ?_ _) | (with_reducible refine Kd.C_drew ?_) | exact HR305_0.out)) hb); have n4_ := Aside0.mk (below_step (by repeat (first | (with_reducible first | exact HB.out | apply below_alloc | apply pw_below_drewN | apply below_drew1) | exact HB.out)) hb); clear HO_25; clear HL305_0; clear HR305_0; clear HB; have HO_25 := n0_; have HL305_0 := n1_; have HO308 := n2_; have HR305_0 := n3_; have HB := n4_; clear n0_ n1_ n2_ n3_ n4_; (try clear hb); (try clear hb2); (try clear hk); (try clear hi); (try clear ho0); obtain ⟨Ao22, co22, eo22⟩ := Kd.R_slice HO308.out; subst eo22) | ((with_reducible refine gate_callee (f := 37) rfl ?_); refine goesL_ (some 35) rfl rfl Try.func37 (by kernel_rfl) rfl #[.slice Ao22 t306.length co22] rfl (by (try simp only [List.map_toArray, List.map_cons, List.map_nil]); first | done | rfl | (simp only [List.length_drop, List.length_take]; rfl)) ?_; (with_reducible refine (spec_diLength.calls k2 _ _ t306 t309 _ ?side1 ?side2 A17.out).mono ?_); (case side1 => repeat (first | exact (Kd.R_reads' HO308.out).2.2 | (with_reducible refine Kd.C_alloc ?_ _) | (with_reducible refine Kd.C_drewN ?_ _) | (with_reducible refine Kd.C_drew ?_))); (case side2 => exact (Kd.R_reads' HO308.out).2.1); rintro e w' ⟨rfl, ⟨nd, rfl⟩⟩; refine ⟨_, rfl, ?_⟩))
                    go_roundg k2
                    case measure => have := HJ4.out; have := HK2.out; omega
                    case rel => exact ⟨(x10_2), (wrap64 (x27_2 + 1)), (by first | rfl | (simp; done) | (simp [*]; done)), (by first | rfl | (simp; done) | (simp [*]; done)), H', ⟨by have := HJ4.out; have := HK2.out; omega⟩, ⟨by (with_reducible repeat (first | apply Kd.N_alloc | apply Kd.N_drewN | apply Kd.N_drew)); exact Kd.N_mono HO_25.out (fun _ hk => trivial)⟩, ⟨by repeat (first | (with_reducible first | exact HB.out | apply below_alloc | apply pw_below_drewN | apply below_drew1) | exact HB.out)⟩⟩
                · rw [if_neg c15] at H
                  exact absurd H (by simp)
              · rw [if_neg c14] at H
                exact absurd H (by simp)
            · rw [if_neg c13] at H
              have c13b0 : decide (x27_2 < (t302.length : Int)) = false := decide_eq_false c13
              clear c13
              simp only [Option.some.injEq, Prod.mk.injEq] at H
              obtain ⟨rfl, rfl⟩ := H
              go_wp2
              go_ret2
              exact ⟨by first | rfl | (simp [errW_none, errW_some] <;> rfl) | (simp [*, errW_none, errW_some] <;> rfl), by repeat (first | (with_reducible first | exact HB.out | apply below_alloc | apply pw_below_drewN | apply below_drew1) | exact HB.out)⟩

/-! ### impl_isFew: function 39 -/
def impl_isFew.f (a0 : Int) : Option (Bool) := (impl_within.f a0 1 3).bind fun t310 => (some t310)
set_option maxHeartbeats 8000000 in
set_option maxRecDepth 100000 in
theorem impl_isFew.calls (a0 : Int) (r : Bool) (w : World) (h : impl_isFew.f a0 = some r) :
    Calls Try.prog 39 #[.int .i64 a0] w fun e w' => e = .returned (.bool r) ∧ Drawn0 w w' := by
  have H : ((impl_within.f a0 1 3).bind fun t310 => (some t310)) = some r := h
  clear h
  replace H := Option.bind_eq_some_iff.mp H
  obtain ⟨t310, A20, H⟩ := H
  replace H : (some t310) = some r := H
  have A2 := Aside0.mk A20
  clear A20
  obtain rfl := Option.some.inj H
  go_enter Try.func39, Try.ntmps39
  go_wp2_with (first | ((with_reducible refine gate_callee (f := 40) rfl ?_); refine goesL_ (some 4) rfl rfl Try.func40 (by kernel_rfl) rfl #[.int .i64 a0, .int .i64 1, .int .i64 3] rfl (by (try simp only [List.map_toArray, List.map_cons, List.map_nil]); first | done | rfl | (simp only [List.length_drop, List.length_take]; rfl)) ?_; (with_reducible refine (impl_within.calls a0 1 3 t310 _ A2.out).mono ?_); rintro e w' ⟨rfl, ⟨nd, rfl⟩⟩; refine ⟨_, rfl, ?_⟩))
  go_ret
  exact ⟨by first | rfl | (simp; done) | (simp [*]; done), by repeat (first | exact Drawn0.refl _ | apply Drawn0.step)⟩

/-! ### impl_CountByLength_1: function 42 -/
structure cblInv (w0 : World) (m s l : Int) (Bm Bs Bl Bn : Nat) (n : Int) (W : World) : Prop where
  bel : Below w0.heap.size w0 W
  cm : W.cell? ⟨Bm, 0, none⟩ = some (.int .i64 m)
  cs : W.cell? ⟨Bs, 0, none⟩ = some (.int .i64 s)
  cl : W.cell? ⟨Bl, 0, none⟩ = some (.int .i64 l)
  cn : W.cell? ⟨Bn, 0, none⟩ = some (.int .i64 n)
  fn : W.frozen? ⟨Bn, 0, none⟩ = false
theorem cblInv.grow {w0 : World} {m s l : Int} {Bm Bs Bl Bn : Nat} {n : Int} {W W' : World} (h : cblInv w0 m s l Bm Bs Bl Bn n W) (hb : Below W.heap.size W W') : cblInv w0 m s l Bm Bs Bl Bn n W' := by
  obtain ⟨h1, h2, h3, h4, h5, h6⟩ := h
  exact ⟨h1.trans (hb.mono h1.size), pw_cell_below hb h2, pw_cell_below hb h3, pw_cell_below hb h4, pw_cell_below hb h5, (hb.frozen (p := ⟨Bn, 0, none⟩) (World.block_lt_of_cell? W ⟨Bn, 0, none⟩ h5)).trans h6⟩
theorem cblInv.set {w0 : World} {m s l : Int} {Bm Bs Bl Bn : Nat} {n n' : Int} {W : World} (h : cblInv w0 m s l Bm Bs Bl Bn n W) (hB : w0.heap.size ≤ Bn) (h1 : Bm ≠ Bn) (h2 : Bs ≠ Bn) (h3 : Bl ≠ Bn) : cblInv w0 m s l Bm Bs Bl Bn n' (W.setCell ⟨Bn, 0, none⟩ (.int .i64 n')) := by
  obtain ⟨g1, g2, g3, g4, g5, g6⟩ := h
  refine ⟨below_set g1 hB, ?_, ?_, ?_, World.cell?_setCell_same _ _ _ g5, by rw [World.frozen?_setCell]; exact g6⟩
  · rw [World.cell?_setCell_other _ _ _ _ (by simp [Ne.symm h1])]; exact g2
  · rw [World.cell?_setCell_other _ _ _ _ (by simp [Ne.symm h2])]; exact g3
  · rw [World.cell?_setCell_other _ _ _ _ (by simp [Ne.symm h3])]; exact g4
def cblStep (K : Nat) (m s l : Int) (n : Int) (c : List Int) : Option Int := (impl_opening.f K m s c).bind fun o => (impl_length.f K o.1).bind fun t => if 0 ≤ n ∧ n < 1000000 then some (if t = l then n + 1 else n) else none
set_option maxHeartbeats 4000000 in
theorem cbl1_calls (K : Nat) (m s l : Int) (Bm Bs Bl Bn : Nat) (w0 : World) (hB : w0.heap.size ≤ Bn) (h1 : Bm ≠ Bn) (h2 : Bs ≠ Bn) (h3 : Bl ≠ Bn) (n n' : Int) (A : Option Addr) (c : Nat) (x : List Int) (W : World) (hst : cblStep K m s l n x = some n')
    (hI : cblInv w0 m s l Bm Bs Bl Bn n W) (hc : x.length ≤ c) (hr : Kd.C (Kd.int .i64) W A x.length x) :
    Calls Try.prog 42 #[.slice A x.length c, .pointer (some ⟨Bm, 0, none⟩), .pointer (some ⟨Bs, 0, none⟩), .pointer (some ⟨Bl, 0, none⟩), .pointer (some ⟨Bn, 0, none⟩)] W fun e W' => e = .returned (.tuple #[]) ∧ cblInv w0 m s l Bm Bs Bl Bn n' W' ∧ W.heap.size ≤ W'.heap.size := by
  unfold cblStep at hst
  obtain ⟨⟨o, ob⟩, ho, hst⟩ := Option.bind_eq_some_iff.mp hst
  obtain ⟨t, ht, hst⟩ := Option.bind_eq_some_iff.mp hst
  have hn : 0 ≤ n ∧ n < 1000000 := by
    by_cases hl : 0 ≤ n ∧ n < 1000000
    · exact hl
    · rw [if_neg hl] at hst; exact absurd hst (by simp)
  rw [if_pos hn] at hst
  obtain ⟨hn1, hn2⟩ := hn
  have HE := Aside0.mk (Option.some.inj hst)
  have hop := impl_opening.calls K m s A c x o ob W hr hc ho
  have hlen : ∀ (A1 : Option Addr) (c1 : Nat) (W1 : World), Kd.C (Kd.int .i64) W1 A1 o.length o → o.length ≤ c1 → Calls Try.prog 43 #[.slice A1 o.length c1] W1 fun e w' => e = .returned (.int .i64 t) ∧ Drawn0 W1 w' := fun A1 c1 W1 g1 g2 => impl_length.calls K A1 c1 o t W1 g1 g2 ht
  have HI := Aside0.mk hI
  have cm := hI.cm
  have cs := hI.cs
  clear hr hc ho ht hst hI
  go_enter Try.func42, Try.ntmps42
  go_wp2_with (go_at_call 33; refine hop.mono ?_; rintro e w1 ⟨v0, rfl, hr, hb⟩; obtain ⟨A1, c1, rfl⟩ := Kd.R_slice hr; have HR := Aside0.mk hr; have HB := Aside0.mk hb; clear hr hb)
  have HI1 := Aside0.mk (HI.out.grow HB.out)
  clear HI hop cm cs
  have hsz := HB.out.size
  have hln := fun q => hlen A1 c1 (w1.drewN q) (Kd.C_drewN (Kd.R_reads' HR.out).2.2 q) (Kd.R_reads' HR.out).2.1
  clear HB hlen
  have cl := HI1.out.cl
  have cn := HI1.out.cn
  have fn := HI1.out.fn
  by_cases htl : t = l
  · subst htl
    have hn' : n' = n + 1 := by have := HE.out; rw [if_pos rfl] at this; exact this.symm
    subst hn'
    go_quiet ((go_at_call 43; exact Calls.quiet_of ((hln _).mono (by rintro e w' ⟨rfl, ⟨nd, rfl⟩⟩; exact ⟨rfl, nd, rfl⟩))))
    go_wp2
    go_end0
    exact ⟨rfl, (HI1.out.grow (pw_below_drewN (Below.refl _ _) nq)).set hB h1 h2 h3, by simpa using hsz⟩
  · have hn' : n' = n := by have := HE.out; rw [if_neg htl] at this; exact this.symm
    subst hn'
    have htl' : (t == l) = false := by simpa using htl
    go_quiet ((go_at_call 43; exact Calls.quiet_of ((hln _).mono (by rintro e w' ⟨rfl, ⟨nd, rfl⟩⟩; exact ⟨rfl, nd, rfl⟩))))
    go_wp2
    go_end0
    exact ⟨rfl, HI1.out.grow (pw_below_drewN (Below.refl _ _) nq), by simpa using hsz⟩


/-! ### impl_CountByLength: function 17 -/
theorem cblStep_mono (k : Nat) (m s l n : Int) (c : List Int) : LeO (cblStep k m s l n c) (cblStep (k + 1) m s l n c) := LeO.bind (impl_opening.mono _ _ _ _) (fun o => LeO.bind (impl_length.mono _ _) (fun _ => LeO.refl _))
def impl_CountByLength.f (k : Nat) (a0 a1 a2 a3 : Int) : Option (Int × Bool) :=
  if ((2 ≤ a0 ∧ a0 ≤ 100) ∧ 0 ≤ a1 ∧ a1 ≤ a0 - 1) ∧ a0 ≤ 12 ∧ (1 ≤ a2 ∧ a2 ≤ 3) ∧ 0 ≤ a3 ∧ a3 ≤ 10000 then
    (impl_power.f k a0 a2).bind fun t => if t = ((a0.toNat ^ a2.toNat : Nat) : Int) ∧ t ≤ 2000 then (foldO (cblStep k a0 a1 a3) 0 (dall a0.toNat a2.toNat)).map (fun n => (n, true)) else none
  else some (0, false)
theorem impl_CountByLength.mono : ∀ a0 a1 a2 a3 k, LeO (impl_CountByLength.f k a0 a1 a2 a3) (impl_CountByLength.f (k + 1) a0 a1 a2 a3) := by
  intro a0 a1 a2 a3 k
  unfold impl_CountByLength.f
  exact LeO.ite (LeO.bind (impl_power.mono _ _ _) (fun _ => LeO.ite (LeO.map _ (foldO_mono (fun s x => cblStep_mono k a0 a1 a3 s x) _ _)) (LeO.none _))) (LeO.refl _)
theorem dial_one (m s : Int) : impl_isDial.f m [s] = some (decide ((2 ≤ m ∧ m ≤ 100) ∧ 0 ≤ s ∧ s ≤ m - 1)) := by
  unfold impl_isDial.f
  rw [if_pos (by simp)]
  simp
set_option maxHeartbeats 8000000 in
set_option maxRecDepth 100000 in
theorem impl_CountByLength.calls (k : Nat) (a0 a1 a2 a3 : Int) (r : Int) (r2 : Bool) (w : World) (h : impl_CountByLength.f k a0 a1 a2 a3 = some (r, r2)) :
    Calls Try.prog 17 #[.int .i64 a0, .int .i64 a1, .int .i64 a2, .int .i64 a3] w fun e w' => e = .returned (.tuple #[.int .i64 r, .bool r2]) ∧ Below w.heap.size w w' := by
  unfold impl_CountByLength.f at h
  have hdial : ∀ (W : World) (B : Nat) (b : Bool), decide ((2 ≤ a0 ∧ a0 ≤ 100) ∧ 0 ≤ a1 ∧ a1 ≤ a0 - 1) = b → Kd.C (Kd.int .i64) W (some ⟨B, 0, none⟩) 1 [a1] → Calls Try.prog 38 #[.int .i64 a0, .slice (some ⟨B, 0, none⟩) 1 1] W fun e w' => e = .returned (.bool b) ∧ Below W.heap.size W w' :=
    fun W B b hb hc => impl_isDial.calls a0 (some ⟨B, 0, none⟩) 1 [a1] b W hc (by simp) (by rw [dial_one, hb])
  have hfew : ∀ (W : World) (b : Bool), decide (1 ≤ a2 ∧ a2 ≤ 3) = b → Calls Try.prog 39 #[.int .i64 a2] W fun e w' => e = .returned (.bool b) ∧ Drawn0 W w' :=
    fun W b hb => impl_isFew.calls a2 b W (by rw [← hb]; unfold impl_isFew.f impl_within.f; by_cases h : a2 ≥ 1 <;> simp [h])
  have hwi : ∀ (W : World) (b : Bool), decide (0 ≤ a3 ∧ a3 ≤ 10000) = b → Calls Try.prog 40 #[.int .i64 a3, .int .i64 0, .int .i64 10000] W fun e w' => e = .returned (.bool b) ∧ Drawn0 W w' :=
    fun W b hb => impl_within.calls a3 0 10000 b W (by rw [← hb]; unfold impl_within.f; by_cases h : 0 ≤ a3 <;> simp [h])
  by_cases hD : (2 ≤ a0 ∧ a0 ≤ 100) ∧ 0 ≤ a1 ∧ a1 ≤ a0 - 1
  case neg =>
    rw [if_neg (fun hc => hD hc.1)] at h
    obtain ⟨rfl, rfl⟩ : 0 = r ∧ false = r2 := by simpa using h
    have hd := fun W B => hdial W B false (decide_eq_false hD)
    clear h hdial hfew hwi hD
    go_enter Try.func17, Try.ntmps17
    go_wp2_with (go_at_call 38; refine (hd _ _ (hw_C_lit1 _ _ _ _ (by simp))).mono ?_; rintro e w1 ⟨rfl, hb⟩; have HB := Aside0.mk hb; clear hb)
    go_ret2
    exact ⟨rfl, below_then (by repeat (first | exact Below.refl _ _ | apply below_alloc)) (by simp; omega) HB.out⟩
  by_cases hM : a0 ≤ 12
  case neg =>
    rw [if_neg (fun hc => hM hc.2.1)] at h
    obtain ⟨rfl, rfl⟩ : 0 = r ∧ false = r2 := by simpa using h
    have hd := fun W B => hdial W B true (decide_eq_true hD)
    have hM' : 12 < a0 := by omega
    clear h hdial hfew hwi hD hM
    go_enter Try.func17, Try.ntmps17
    go_wp2_with (go_at_call 38; refine (hd _ _ (hw_C_lit1 _ _ _ _ (by simp))).mono ?_; rintro e w1 ⟨rfl, hb⟩; have HB := Aside0.mk hb; have hc1 := pw_cell_below hb (hw_cell_old _ _ (hw_cell_old _ _ (hw_cell_old _ _ (hw_cell_at _ _ _ _ rfl)))); clear hb)
    go_ret2
    exact ⟨rfl, below_then (by repeat (first | exact Below.refl _ _ | apply below_alloc)) (by simp; omega) HB.out⟩
  by_cases hF : 1 ≤ a2 ∧ a2 ≤ 3
  case neg =>
    rw [if_neg (fun hc => hF hc.2.2.1)] at h
    obtain ⟨rfl, rfl⟩ : 0 = r ∧ false = r2 := by simpa using h
    have hd := fun W B => hdial W B true (decide_eq_true hD)
    have hf := fun W => hfew W false (decide_eq_false hF)
    have hM' : decide (12 < a0) = false := decide_eq_false (by omega)
    clear h hdial hfew hwi hD hM hF
    go_enter Try.func17, Try.ntmps17
    go_wp2_with (first | (go_at_call 38; refine (hd _ _ (hw_C_lit1 _ _ _ _ (by simp))).mono ?_; rintro e w1 ⟨rfl, hb⟩; have HB := Aside0.mk hb; have hsz := hb.size; have hc1 := pw_cell_below hb (hw_cell_old _ _ (hw_cell_old _ _ (hw_cell_old _ _ (hw_cell_at _ _ _ _ rfl)))); have hc3 := pw_cell_below hb (hw_cell_old _ _ (hw_cell_at _ (.int .i64 a3) 3 (w.heap.size + 1 + 1) (by simp))); clear hb) | (go_at_call 39; refine (hf _).mono ?_; rintro e w' ⟨rfl, ⟨nd, rfl⟩⟩))
    go_ret2
    exact ⟨rfl, pw_below_drewN (below_then (by repeat (first | exact Below.refl _ _ | apply below_alloc)) (by simp; omega) HB.out) _⟩
  by_cases hL : 0 ≤ a3 ∧ a3 ≤ 10000
  case neg =>
    rw [if_neg (fun hc => hL hc.2.2.2)] at h
    obtain ⟨rfl, rfl⟩ : 0 = r ∧ false = r2 := by simpa using h
    have hd := fun W B => hdial W B true (decide_eq_true hD)
    have hf := fun W => hfew W true (decide_eq_true hF)
    have hw := fun W => hwi W false (decide_eq_false hL)
    have hM' : decide (12 < a0) = false := decide_eq_false (by omega)
    clear h hdial hfew hwi hD hM hF hL
    go_enter Try.func17, Try.ntmps17
    go_wp2_with (first | (go_at_call 38; refine (hd _ _ (hw_C_lit1 _ _ _ _ (by simp))).mono ?_; rintro e w1 ⟨rfl, hb⟩; have HB := Aside0.mk hb; have hsz := hb.size; have hc1 := pw_cell_below hb (hw_cell_old _ _ (hw_cell_old _ _ (hw_cell_old _ _ (hw_cell_at _ _ _ _ rfl)))); have hc3 := pw_cell_below hb (hw_cell_old _ _ (hw_cell_at _ (.int .i64 a3) 3 (w.heap.size + 1 + 1) (by simp))); clear hb) | (go_at_call 39; refine (hf _).mono ?_; rintro e w' ⟨rfl, ⟨nd, rfl⟩⟩) | (go_at_call 40; refine (hw _).mono ?_; rintro e w' ⟨rfl, ⟨nd2, rfl⟩⟩))
    go_ret2
    refine ⟨rfl, ?_⟩
    apply pw_below_drewN
    exact below_then (by repeat (first | exact Below.refl _ _ | apply below_alloc)) (by simp; omega) HB.out
  rw [if_pos ⟨hD, hM, hF, hL⟩] at h
  obtain ⟨t, ht, h⟩ := Option.bind_eq_some_iff.mp h
  by_cases hT : t = ((a0.toNat ^ a2.toNat : Nat) : Int) ∧ t ≤ 2000
  case neg => rw [if_neg hT] at h; exact absurd h (by simp)
  rw [if_pos hT] at h
  obtain ⟨n, hn, e1⟩ := Option.map_eq_some_iff.mp h
  obtain ⟨rfl, rfl⟩ : n = r ∧ true = r2 := by simpa using e1
  obtain ⟨rfl, hT2⟩ := hT
  have hd := fun W B => hdial W B true (decide_eq_true hD)
  have hf := fun W => hfew W true (decide_eq_true hF)
  have hw := fun W => hwi W true (decide_eq_true hL)
  have hM' : decide (12 < a0) = false := decide_eq_false (by omega)
  have eg : ∀ args w, (callFunc 42 args).run Try.prog w = .ok (.enter 42 args) w := enters_of Try.func42 (by kernel_rfl) rfl
  have hcod : ∀ (Bn : Nat) (W : World), w.heap.size + 1 + 1 < Bn → cblInv w a0 a1 a3 w.heap.size (w.heap.size + 1) (w.heap.size + 1 + 1) Bn 0 W → Calls Try.prog 41 #[.int .i64 a0, .int .i64 a2, .func (.func 42) #[] #[.pointer (some ⟨w.heap.size, 0, none⟩), .pointer (some ⟨w.heap.size + 1, 0, none⟩), .pointer (some ⟨w.heap.size + 1 + 1, 0, none⟩), .pointer (some ⟨Bn, 0, none⟩)]] W fun e W' => e = .returned (.tuple #[]) ∧ cblInv w a0 a1 a3 w.heap.size (w.heap.size + 1) (w.heap.size + 1 + 1) Bn n W' := by
    intro Bn W hB hI
    have x0 : ((a0.toNat : Nat) : Int) = a0 := by omega
    have x2 : ((a2.toNat : Nat) : Int) = a2 := by omega
    have := dialCodes_calls 42 #[.pointer (some ⟨w.heap.size, 0, none⟩), .pointer (some ⟨w.heap.size + 1, 0, none⟩), .pointer (some ⟨w.heap.size + 1 + 1, 0, none⟩), .pointer (some ⟨Bn, 0, none⟩)] k a0.toNat (a0.toNat ^ a2.toNat) a2.toNat (cblStep k a0 a1 a3) (fun n W => cblInv w a0 a1 a3 w.heap.size (w.heap.size + 1) (w.heap.size + 1 + 1) Bn n W) 0 n W eg (by omega) (by omega) rfl (by omega) (by rw [x0, x2]; exact ht)
      (fun s W W' h1 h2 => h1.grow h2) (fun s s' A c l W hst hI _ hc hR => cbl1_calls k a0 a1 a3 _ _ _ Bn w (by omega) (by omega) (by omega) (by omega) s s' A c l W hst hI hc (Kd.R_reads' hR).2.2) hI hn
    rw [x0, x2] at this
    exact this
  clear h hdial hfew hwi hD hM hF hL eg ht hn e1 hT2
  go_enter Try.func17, Try.ntmps17
  go_wp2_with (first | (go_at_call 38; go_loud (refine (hd _ _ (hw_C_lit1 _ _ _ _ (by simp))).mono ?_; rintro e w1 ⟨rfl, hb⟩; have HB := Aside0.mk hb; have hsz := hb.size; have hc1 : w1.cell? ⟨w.heap.size, 0, none⟩ = some (.int .i64 a0) := pw_cell_below hb (hw_cell_old _ _ (hw_cell_old _ _ (hw_cell_old _ _ (hw_cell_at _ _ _ _ rfl)))); have hn1 : ∀ q, ((w1.drewN q).alloc (.cells #[.int .i64 0] 3)).cell? ⟨w1.heap.size, 0, none⟩ = some (.int .i64 0) := fun q => hw_cell_at _ _ _ _ rfl; have hn2 : ∀ q, ((w1.drewN q).alloc (.cells #[.int .i64 0] 3)).frozen? ⟨w1.heap.size, 0, none⟩ = false := fun q => hw_frozen_at _ _ _ _ rfl; have hsz2 : w.heap.size + 1 + 1 + 1 + 1 ≤ w1.heap.size := (by have h9_ := hsz; simp only [World.size_alloc] at h9_; exact h9_); have hc1s : ∀ q, (((w1.drewN q).alloc (.cells #[.int .i64 0] 3)).setCell ⟨w1.heap.size, 0, none⟩ (.int .i64 0)).cell? ⟨w.heap.size, 0, none⟩ = some (.int .i64 a0) := fun q => (World.cell?_setCell_other _ _ _ _ (by intro e_; have e2_ : w1.heap.size = w.heap.size := congrArg Addr.block e_; omega)).trans (hw_cell_old _ _ hc1); have hc2 : w1.cell? ⟨w.heap.size + 1, 0, none⟩ = some (.int .i64 a1) := pw_cell_below hb (hw_cell_old _ _ (hw_cell_old _ _ (hw_cell_at _ (.int .i64 a1) 3 (w.heap.size + 1) (by simp)))); have hc3 : w1.cell? ⟨w.heap.size + 1 + 1, 0, none⟩ = some (.int .i64 a3) := pw_cell_below hb (hw_cell_old _ _ (hw_cell_at _ (.int .i64 a3) 3 (w.heap.size + 1 + 1) (by simp))); clear hb)) | (go_at_call 39; refine (hf _).mono ?_; rintro e w' ⟨rfl, ⟨nd, rfl⟩⟩) | (go_at_call 40; refine (hw _).mono ?_; rintro e w' ⟨rfl, ⟨nd2, rfl⟩⟩) | (go_at_call 41; go_loud (refine (hcod w1.heap.size _ (by omega) ?hI).mono ?_; (case hI => exact ⟨below_set (below_alloc (pw_below_drewN (below_then (by repeat (first | exact Below.refl _ _ | apply below_alloc)) (by simp; omega) HB.out) _) _) (by omega), hc1s _, (World.cell?_setCell_other _ _ _ _ (by intro e_; have e2_ : w1.heap.size = w.heap.size + 1 := congrArg Addr.block e_; omega)).trans (hw_cell_old _ _ hc2), (World.cell?_setCell_other _ _ _ _ (by intro e_; have e2_ : w1.heap.size = w.heap.size + 1 + 1 := congrArg Addr.block e_; omega)).trans (hw_cell_old _ _ hc3), World.cell?_setCell_same _ _ _ (hn1 _), by rw [World.frozen?_setCell]; exact hn2 _⟩); rintro e w2 ⟨rfl, hI2⟩; have HI2 := Aside0.mk hI2; have hcn := hI2.cn; clear hI2)))
  go_ret2
  exact ⟨rfl, HI2.out.bel⟩


/-! ### laws_FnExactCountByLength: function 4 -/
def laws_FnExactCountByLength.f (k : Nat) (a0 : Int) (a1 : Int) (a2 : Int) (a3 : Int) : Option (Bool) := (spec_CountByLength.f k a0 a1 a2 a3).bind fun bt311 => ((impl_CountByLength.f k a0 a1 a2 a3).bind fun bt313 => (if bt313.1 = bt311.1 then (if (bt313.2 != bt311.2) = true then (some false) else (some true)) else (some false)))
theorem laws_FnExactCountByLength.mono : ∀ a0 a1 a2 a3 k, LeO (laws_FnExactCountByLength.f k a0 a1 a2 a3) (laws_FnExactCountByLength.f (k + 1) a0 a1 a2 a3) := by
  intro a0 a1 a2 a3 k
  unfold laws_FnExactCountByLength.f
  repeat' first
      | (with_reducible exact impl_CountByLength.mono _ _ _ _ _)
      | (with_reducible exact spec_CountByLength.mono _ _ _ _ _)
      | (with_reducible exact LeO.refl _)
      | (with_reducible exact LeO.none _)
      | (with_reducible refine LeO.ite ?_ ?_)
      | (with_reducible refine LeO.bind ?_ (fun _ => ?_))
      | exact impl_CountByLength.mono _ _ _ _ _
      | exact spec_CountByLength.mono _ _ _ _ _
      | exact LeO.none _
      | refine LeO.ite ?_ ?_
      | refine LeO.bind ?_ (fun _ => ?_)
set_option maxHeartbeats 8000000 in
set_option maxRecDepth 100000 in
theorem laws_FnExactCountByLength.calls (k : Nat) (a0 : Int) (a1 : Int) (a2 : Int) (a3 : Int) (r : Bool) (w : World) (h : laws_FnExactCountByLength.f k a0 a1 a2 a3 = some r) :
    Calls Try.prog 4 #[.int .i64 a0, .int .i64 a1, .int .i64 a2, .int .i64 a3] w fun e w' => e = .returned (.bool r) ∧ Below w.heap.size w w' := by
  have HB := Aside0.mk (Below.refl w.heap.size w)
  have H : ((spec_CountByLength.f k a0 a1 a2 a3).bind fun bt311 => ((impl_CountByLength.f k a0 a1 a2 a3).bind fun bt313 => (if bt313.1 = bt311.1 then (if (bt313.2 != bt311.2) = true then (some false) else (some true)) else (some false)))) = some r := h
  clear h
  replace H := Option.bind_eq_some_iff.mp H
  obtain ⟨⟨t311, t312⟩, A50, H⟩ := H
  replace H : ((impl_CountByLength.f k a0 a1 a2 a3).bind fun bt313 => (if bt313.1 = t311 then (if (bt313.2 != t312) = true then (some false) else (some true)) else (some false))) = some r := H
  have A5 := Aside0.mk A50
  clear A50
  replace H := Option.bind_eq_some_iff.mp H
  obtain ⟨⟨t313, t314⟩, A60, H⟩ := H
  replace H : (if t313 = t311 then (if (t314 != t312) = true then (some false) else (some true)) else (some false)) = some r := H
  have A6 := Aside0.mk A60
  clear A60
  by_cases c7 : t313 = t311
  · rw [if_pos c7] at H
    have c7b0 : (t313 == t311) = true := beq_iff_eq.mpr c7
    have c7b1 : (t313 != t311) = false := bne_eq_false_iff_eq.mpr c7
    clear c7
    by_cases c8 : (t314 != t312) = true
    · rw [if_pos c8] at H
      have c8b0 : (t314 != t312) = true := c8
      (try (have c8b1 : decide (t314 = t312) = false := by simpa using c8))
      (try (have c8b2 : (t314 == t312) = false := by simpa using c8))
      (try (have c8b3 : ¬ (t314 = t312) := by simpa using c8))
      clear c8
      obtain rfl := Option.some.inj H
      go_enter Try.func4, Try.ntmps4
      go_wp2_with (first | ((with_reducible refine gate_callee (f := 16) rfl ?_); refine goesL_ (some 18) rfl rfl Try.func16 (by kernel_rfl) rfl #[.int .i64 a0, .int .i64 a1, .int .i64 a2, .int .i64 a3] rfl (by (try simp only [List.map_toArray, List.map_cons, List.map_nil]); first | done | rfl | (simp only [List.length_drop, List.length_take]; rfl)) ?_; (with_reducible refine (spec_CountByLength.calls k a0 a1 a2 a3 t311 t312 _ A5.out).mono ?_); rintro e w9 ⟨rfl, hb⟩; refine ⟨_, rfl, ?_⟩; have n0_ := Aside0.mk (below_step (by repeat (first | (with_reducible first | exact HB.out | apply below_alloc | apply pw_below_drewN | apply below_drew1) | exact HB.out)) hb); clear HB; have HB := n0_; clear n0_; (try clear hb); (try clear hb2); (try clear hk); (try clear hi)) | ((with_reducible refine gate_callee (f := 17) rfl ?_); refine goesL_ (some 26) rfl rfl Try.func17 (by kernel_rfl) rfl #[.int .i64 a0, .int .i64 a1, .int .i64 a2, .int .i64 a3] rfl (by (try simp only [List.map_toArray, List.map_cons, List.map_nil]); first | done | rfl | (simp only [List.length_drop, List.length_take]; rfl)) ?_; (with_reducible refine (impl_CountByLength.calls k a0 a1 a2 a3 t313 t314 _ A6.out).mono ?_); rintro e w10 ⟨rfl, hb⟩; refine ⟨_, rfl, ?_⟩; have n0_ := Aside0.mk (below_step (by repeat (first | (with_reducible first | exact HB.out | apply below_alloc | apply pw_below_drewN | apply below_drew1) | exact HB.out)) hb); clear HB; have HB := n0_; clear n0_; (try clear hb); (try clear hb2); (try clear hk); (try clear hi)))
      go_ret
      exact ⟨by first | rfl | (simp [errW_none, errW_some] <;> rfl) | (simp [*, errW_none, errW_some] <;> rfl), by repeat (first | (with_reducible first | exact HB.out | apply below_alloc | apply pw_below_drewN | apply below_drew1) | exact HB.out)⟩
    · rw [if_neg c8] at H
      have c8b0 : (t314 != t312) = false := by simpa using c8
      (try (have c8b1 : decide (t314 = t312) = true := by simpa using c8))
      (try (have c8b2 : (t314 == t312) = true := by simpa using c8))
      clear c8
      obtain rfl := Option.some.inj H
      go_enter Try.func4, Try.ntmps4
      go_wp2_with (first | ((with_reducible refine gate_callee (f := 16) rfl ?_); refine goesL_ (some 18) rfl rfl Try.func16 (by kernel_rfl) rfl #[.int .i64 a0, .int .i64 a1, .int .i64 a2, .int .i64 a3] rfl (by (try simp only [List.map_toArray, List.map_cons, List.map_nil]); first | done | rfl | (simp only [List.length_drop, List.length_take]; rfl)) ?_; (with_reducible refine (spec_CountByLength.calls k a0 a1 a2 a3 t311 t312 _ A5.out).mono ?_); rintro e w11 ⟨rfl, hb⟩; refine ⟨_, rfl, ?_⟩; have n0_ := Aside0.mk (below_step (by repeat (first | (with_reducible first | exact HB.out | apply below_alloc | apply pw_below_drewN | apply below_drew1) | exact HB.out)) hb); clear HB; have HB := n0_; clear n0_; (try clear hb); (try clear hb2); (try clear hk); (try clear hi)) | ((with_reducible refine gate_callee (f := 17) rfl ?_); refine goesL_ (some 26) rfl rfl Try.func17 (by kernel_rfl) rfl #[.int .i64 a0, .int .i64 a1, .int .i64 a2, .int .i64 a3] rfl (by (try simp only [List.map_toArray, List.map_cons, List.map_nil]); first | done | rfl | (simp only [List.length_drop, List.length_take]; rfl)) ?_; (with_reducible refine (impl_CountByLength.calls k a0 a1 a2 a3 t313 t314 _ A6.out).mono ?_); rintro e w12 ⟨rfl, hb⟩; refine ⟨_, rfl, ?_⟩; have n0_ := Aside0.mk (below_step (by repeat (first | (with_reducible first | exact HB.out | apply below_alloc | apply pw_below_drewN | apply below_drew1) | exact HB.out)) hb); clear HB; have HB := n0_; clear n0_; (try clear hb); (try clear hb2); (try clear hk); (try clear hi)))
      go_ret
      exact ⟨by first | rfl | (simp [errW_none, errW_some] <;> rfl) | (simp [*, errW_none, errW_some] <;> rfl), by repeat (first | (with_reducible first | exact HB.out | apply below_alloc | apply pw_below_drewN | apply below_drew1) | exact HB.out)⟩
  · rw [if_neg c7] at H
    have c7b0 : (t313 == t311) = false := beq_eq_false_iff_ne.mpr c7
    have c7b1 : (t313 != t311) = true := bne_iff_ne.mpr c7
    obtain rfl := Option.some.inj H
    go_enter Try.func4, Try.ntmps4
    go_wp2_with (first | ((with_reducible refine gate_callee (f := 16) rfl ?_); refine goesL_ (some 18) rfl rfl Try.func16 (by kernel_rfl) rfl #[.int .i64 a0, .int .i64 a1, .int .i64 a2, .int .i64 a3] rfl (by (try simp only [List.map_toArray, List.map_cons, List.map_nil]); first | done | rfl | (simp only [List.length_drop, List.length_take]; rfl)) ?_; (with_reducible refine (spec_CountByLength.calls k a0 a1 a2 a3 t311 t312 _ A5.out).mono ?_); rintro e w13 ⟨rfl, hb⟩; refine ⟨_, rfl, ?_⟩; have n0_ := Aside0.mk (below_step (by repeat (first | (with_reducible first | exact HB.out | apply below_alloc | apply pw_below_drewN | apply below_drew1) | exact HB.out)) hb); clear HB; have HB := n0_; clear n0_; (try clear hb); (try clear hb2); (try clear hk); (try clear hi)) | ((with_reducible refine gate_callee (f := 17) rfl ?_); refine goesL_ (some 26) rfl rfl Try.func17 (by kernel_rfl) rfl #[.int .i64 a0, .int .i64 a1, .int .i64 a2, .int .i64 a3] rfl (by (try simp only [List.map_toArray, List.map_cons, List.map_nil]); first | done | rfl | (simp only [List.length_drop, List.length_take]; rfl)) ?_; (with_reducible refine (impl_CountByLength.calls k a0 a1 a2 a3 t313 t314 _ A6.out).mono ?_); rintro e w14 ⟨rfl, hb⟩; refine ⟨_, rfl, ?_⟩; have n0_ := Aside0.mk (below_step (by repeat (first | (with_reducible first | exact HB.out | apply below_alloc | apply pw_below_drewN | apply below_drew1) | exact HB.out)) hb); clear HB; have HB := n0_; clear n0_; (try clear hb); (try clear hb2); (try clear hk); (try clear hi)))
    go_ret
    exact ⟨by first | rfl | (simp [errW_none, errW_some] <;> rfl) | (simp [*, errW_none, errW_some] <;> rfl), by repeat (first | (with_reducible first | exact HB.out | apply below_alloc | apply pw_below_drewN | apply below_drew1) | exact HB.out)⟩

/-- THE ONE PURE STATEMENT of laws_FnExactCountByLength: yours. -/
def laws_FnExactCountByLength.Pure : Prop := ∀ (a0 : Int) (a1 : Int) (a2 : Int) (a3 : Int), (Lit.int .i64 a0).wf = true → (Lit.int .i64 a1).wf = true → (Lit.int .i64 a2).wf = true → (Lit.int .i64 a3).wf = true → ∃ k, laws_FnExactCountByLength.f k a0 a1 a2 a3 = some true
theorem laws_FnExactCountByLength.walk (P : laws_FnExactCountByLength.Pure) (a0 : Int) (a1 : Int) (a2 : Int) (a3 : Int) (w : World) (w0 : (Lit.int .i64 a0).wf = true) (w1 : (Lit.int .i64 a1).wf = true) (w2 : (Lit.int .i64 a2).wf = true) (w3 : (Lit.int .i64 a3).wf = true) :
    Calls Try.prog 4 #[.int .i64 a0, .int .i64 a1, .int .i64 a2, .int .i64 a3] w fun e w' => e = .returned (.bool true) ∧ Below w.heap.size w w' := by
  obtain ⟨k, h⟩ := P a0 a1 a2 a3 w0 w1 w2 w3
  refine (laws_FnExactCountByLength.calls k a0 a1 a2 a3 true w h).mono ?_
  rintro e w' ⟨rfl, hd⟩
  exact ⟨rfl, hd⟩

end Go.Proofs.Ytbmbplmcdbgnnaa.Q
