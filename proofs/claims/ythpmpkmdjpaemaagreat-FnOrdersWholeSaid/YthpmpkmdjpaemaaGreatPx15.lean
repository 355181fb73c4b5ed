-- Printed by hp.py, a program of this session: a machine's side of laws, out of the translation; Lean checks it.
import Derived.Test.YthpmpkmdjpaemaaGreatPx0
import Derived.Test.YthpmpkmdjpaemaaGreatPx6
import Derived.Test.YthpmpkmdjpaemaaGreatPx9
import Derived.Test.YthpmpkmdjpaemaaGreatPx13
import Derived.Test.YthpmpkmdjpaemaaGreatPx14
namespace Go.Proofs.YthpmpkmdjpaemaaGreat.P
open Go.RowKit Go.Proofs.YthpmpkmdjpaemaaGreatW.PrintWords Go.Proofs.YthpmpkmdjpaemaaGreatW.PrintLast Go.Proofs.YthpmpkmdjpaemaaGreatW.PrintMore
attribute [local go_sem] max2_int min2_int max_two min_two max_three min_three max_four min_four   -- for this text's walks alone
set_option maxHeartbeats 8000000
set_option maxRecDepth 100000
set_option linter.unusedVariables false
set_option linter.unusedSimpArgs false

/-! ### slices_Compact_string_string: function 91 -/
def cmpL_ren : Go.Shelf.Ren := ⟨fun | 194 => 91 | n => n, fun | 0 => 0 | 3 => 3 | 4 => 4 | 9 => 9 | 31 => 26 | n => n, fun n => n⟩
theorem cmpL : Go.Proofs.Lays.n194 Tryz.prog cmpL_ren := {
  mixed := by kernel_rfl,
  f194 := Tryz.func91.trans (congrArg some (by kernel_rfl)),
  t0 := Tryz.underlying0,
  a0 := Tryz.isAgg0,
  z0 := Tryz.sizeOf0,
  v0 := Tryz.zeroValue0,
  t3 := Tryz.underlying3,
  a3 := Tryz.isAgg3,
  z3 := Tryz.sizeOf3,
  v3 := Tryz.zeroValue3,
  t4 := Tryz.underlying4,
  a4 := Tryz.isAgg4,
  z4 := Tryz.sizeOf4,
  v4 := Tryz.zeroValue4,
  t9 := Tryz.underlying9,
  a9 := Tryz.isAgg9,
  z9 := Tryz.sizeOf9,
  v9 := Tryz.zeroValue9,
  t31 := Tryz.underlying26,
  a31 := Tryz.isAgg26,
  z31 := Tryz.sizeOf26,
  v31 := Tryz.zeroValue26 }
def compS (l : List ByteArray) : List ByteArray := (Lib.compact (l.map (·.data.toList))).map (fun x => ⟨x.toArray⟩)
theorem compact_len (zs : List (List UInt8)) : (Lib.compact zs).length ≤ zs.length := by
  unfold Lib.compact Lib.compactUpTo
  rw [List.length_map]
  exact Nat.le_trans (List.length_filter_le _ _) (by simp)
theorem compactS_calls (c g : Nat) (ok : Nat → Prop) (l0 : List ByteArray) (w0 w : World) (hB : Below w0.heap.size w0 w) (hg : w0.heap.size ≤ g) (hR : Kd.R Kd.string 9 w w0.heap.size ok (.slice (some ⟨g, 0, none⟩) l0.length c) l0) :
    Calls Tryz.prog 91 #[.slice (some ⟨g, 0, none⟩) l0.length c] w fun e w' => e = .returned (.slice (some ⟨g, 0, none⟩) (compS l0).length c) ∧ Kd.C Kd.string w' (some ⟨g, 0, none⟩) (compS l0).length (compS l0) ∧ (compS l0).length ≤ c ∧ Below w0.heap.size w0 w' := by
  have hr := Kd.R_reads' hR
  have hmax := Kd.C_max hr.2.2
  have hH : Sort.Holds encStr w g 0 (l0.map (·.data.toList)).toArray := by
    intro j hj
    have hj' : j < l0.length := by simpa using hj
    have := Kd.R_cell (enc := Value.string) (h1 := fun _ => rfl) ByteArray.empty hR (j : Int) (by omega) (by omega)
    rw [Int.toNat_natCast] at this
    refine ⟨?_, by simpa using this.2⟩
    rw [Nat.zero_add, this.1]
    unfold rdOf
    simp [encStr, hj']
  have hlen : (compS l0).length = (Lib.compact (l0.map (·.data.toList))).length := by simp [compS]
  have hle := compact_len (l0.map (·.data.toList))
  rw [List.length_map] at hle
  have h := Any.slices_Compact_string cmpL g 0 c (l0.map (·.data.toList)) w hH (by rw [List.length_map]; exact hmax) (by rw [List.length_map]; exact hr.2.1)
  rw [List.length_map] at h
  refine h.mono ?_
  rintro e w' ⟨rfl, q, rfl⟩
  refine ⟨by rw [hlen], ?_, by rw [hlen]; exact Nat.le_trans hle hr.2.1, Lib.below_putRow hB hg⟩
  obtain ⟨zs, hz⟩ : ∃ zs : List (List UInt8), zs = l0.map (·.data.toList) := ⟨_, rfl⟩
  rw [← hz] at hH hlen hle ⊢
  have hzl : zs.length = l0.length := by rw [hz, List.length_map]
  have hH2 : Sort.Holds encStr (Sort.ahead w q) g 0 zs.toArray := fun j hj => hH j hj
  have hP := Sort.holds_putRow encStr (Sort.ahead w q) g 0 zs.toArray (Lib.compact zs ++ List.replicate (l0.length - (Lib.compact zs).length) []).toArray hH2 (by simp; omega)
  refine Kd.C_of_reads (enc := Value.string) (d := ByteArray.empty) (h1 := fun _ => rfl) ⟨rfl, by rw [hlen]; omega, fun _ => ⟨⟨g, 0, none⟩, rfl, fun j hj => ?_⟩⟩
  have hj' : j < (Lib.compact zs).length := by rw [← hlen]; exact hj
  have := (hP j (by simp; omega)).1
  rw [Nat.zero_add] at this
  have ea : (⟨g, 0, none⟩ : Addr).add j = ⟨g, j, none⟩ := by
    unfold Addr.add
    split <;> simp_all
  rw [ea, this]
  have e2 : compS l0 = (Lib.compact zs).map (fun x => (⟨x.toArray⟩ : ByteArray)) := by rw [hz]; rfl
  rw [e2]
  simp [encStr, hj']
  rw [List.getElem?_append_left hj', List.getElem?_eq_getElem hj']
  rfl


/-! ### impl_sorted: function 85 -/
set_option maxHeartbeats 4000000 in
set_option maxRecDepth 100000 in
theorem sorted_calls (k : Nat) (c g : Nat) (ok : Nat → Prop) (l0 r : List ByteArray) (w0 w : World) (hB : Below w0.heap.size w0 w) (hg : w0.heap.size ≤ g) (hR : Kd.R Kd.string 9 w w0.heap.size ok (.slice (some ⟨g, 0, none⟩) l0.length c) l0) (hm : l0.length ≤ 12) (h : slices_insertionSortOrdered_string.f k l0 0 l0.length = some r) :
    Calls Tryz.prog 85 #[.slice (some ⟨g, 0, none⟩) l0.length c] w fun e w' => e = .returned (.slice (some ⟨g, 0, none⟩) (compS r).length c) ∧ Kd.C Kd.string w' (some ⟨g, 0, none⟩) (compS r).length (compS r) ∧ (compS r).length ≤ c ∧ Below w0.heap.size w0 w' := by
  have hs := sortS_calls k ok (some ⟨g, 0, none⟩) l0.length c l0 r w0 w hB hR hm h
  clear hB hR h
  go_enter Tryz.func85, Tryz.ntmps85
  go_upto_region 2 with (go_at_call 90; refine hs.mono ?_; rintro e w1 ⟨rfl, h1, h2, h3⟩)
  have hn := (Kd.R_reads' h1).1
  rw [hn] at h1
  have hc := compactS_calls c g _ r w0 w1 h2 hg h1
  clear h1 h2 h3
  rw [← hn] at hc
  clear hn hs hg hm
  go_wp2_with (go_at_call 91; refine hc.mono ?_; rintro e w2 ⟨rfl, h1, h2, h3⟩; have H1 := Aside0.mk h1; have H2 := Aside0.mk h2; have H3 := Aside0.mk h3; clear h1 h2 h3 hc)
  go_ret
  exact ⟨rfl, H1.out, H2.out, H3.out⟩


/-! ### impl_Lock_next: function 77 -/
def impl_Lock_next.g (k : Nat) (a b : Int) (s : ByteArray) : List S59 → List ByteArray → Option (List ByteArray)
  | [], out => some out
  | t :: ts, out => (impl_Lock_turned.f k a b s t.f0 t.f1).bind fun x => impl_Lock_next.g k a b s ts (out ++ [x])
def impl_Lock_next.f (k : Nat) (a b : Int) (s : ByteArray) : Option (List ByteArray) := (impl_turns.f k a).bind fun ts => if 0 < ts.length ∧ ts.length ≤ 12 then (impl_Lock_next.g k a b s ts []).bind fun out => (slices_insertionSortOrdered_string.f k out 0 (out.length : Int)).map compS else none
theorem impl_Lock_next.monog : ∀ (ts : List S59) (out : List ByteArray) (a b : Int) (s : ByteArray) (k : Nat), LeO (impl_Lock_next.g k a b s ts out) (impl_Lock_next.g (k + 1) a b s ts out)
  | [], _, _, _, _, _ => LeO.refl _
  | t :: ts, out, a, b, s, k => LeO.bind (impl_Lock_turned.mono _ _ _ _ _ _) (fun x => impl_Lock_next.monog ts _ a b s k)
theorem impl_Lock_next.mono : ∀ a b s k, LeO (impl_Lock_next.f k a b s) (impl_Lock_next.f (k + 1) a b s) := fun a b s k => LeO.bind (impl_turns.mono _ _) (fun ts => LeO.ite (LeO.bind (impl_Lock_next.monog _ _ _ _ _ _) (fun out => LeO.map _ (slices_insertionSortOrdered_string.mono _ _ _ _))) (LeO.none _))
theorem impl_Lock_next.g_len (k : Nat) (a b : Int) (s : ByteArray) : ∀ (ts : List S59) (out r : List ByteArray), impl_Lock_next.g k a b s ts out = some r → r.length = out.length + ts.length
  | [], out, r, h => by
    obtain rfl : out = r := by simpa [impl_Lock_next.g] using h
    simp
  | t :: ts, out, r, h => by
    rw [impl_Lock_next.g] at h
    obtain ⟨x, _, h⟩ := Option.bind_eq_some_iff.mp h
    have := impl_Lock_next.g_len k a b s ts _ r h
    simp at this ⊢
    omega
theorem impl_Lock_next.calls (k : Nat) (a b : Int) (s : ByteArray) (r : List ByteArray) (w : World) (h : impl_Lock_next.f k a b s = some r) :
    Calls Tryz.prog 77 #[.agg #[.int .i64 a, .int .i64 b], .string s] w fun e w' => ∃ g c, e = .returned (.slice (some ⟨g, 0, none⟩) r.length c) ∧ w.heap.size ≤ g ∧ Kd.C Kd.string w' (some ⟨g, 0, none⟩) r.length r ∧ r.length ≤ c ∧ Below w.heap.size w w' := by
  have hu23 := Tryz.underlying25
  have info9 : (Tryz.prog.info? 9).map (fun i => (i.zero, i.size, i.bytes)) = some (some (.string ⟨#[]⟩), 1, 16) := by kernel_rfl
  have HIN9 := Aside0.mk info9
  clear info9
  unfold impl_Lock_next.f at h
  obtain ⟨ts, hts, h⟩ := Option.bind_eq_some_iff.mp h
  split at h
  case isFalse => exact absurd h (by simp)
  rename_i hlen
  obtain ⟨out1, hg, h⟩ := Option.bind_eq_some_iff.mp h
  obtain ⟨r1, hr1, h⟩ := Option.map_eq_some_iff.mp h
  subst h
  have ho1 := impl_Lock_next.g_len k a b s ts [] out1 hg
  simp at ho1
  have HG := Aside0.mk hg
  have HI := Aside0.mk hr1
  have HT := Aside0.mk hts
  have HL := Aside0.mk hlen
  have HO1 := Aside0.mk ho1
  clear hg hr1 hts hlen ho1
  obtain ⟨W0, hW0⟩ : ∃ W0, W0 = (w.alloc (.cells #[.int .i64 a, .int .i64 b] 25)).alloc (.cells #[] 9) := ⟨_, rfl⟩
  have s1 : (w.alloc (.cells #[.int .i64 a, .int .i64 b] 25)).heap.size = w.heap.size + 1 := World.size_alloc _ _
  have HB0 : Aside0 (Below w.heap.size w W0) := ⟨by rw [hW0]; exact below_alloc (below_alloc (Below.refl _ _) _) _⟩
  have HR0 : Aside0 (Kd.R Kd.string 9 W0 w.heap.size (fun _ => True) (.slice (some ⟨w.heap.size + 1, 0, none⟩) 0 0) []) := ⟨by
    have := hw_R_lit Kd.string (w.alloc (.cells #[.int .i64 a, .int .i64 b] 25)) 9 w.heap.size (w.heap.size + 1) (ok := fun _ => True) (xs := []) (inner := []) (okp := fun _ => False) s1.symm (Reps.none _ _) (fun _ hk => hk.elim) trivial (by rw [s1]; omega) (by simp)
    rw [hW0]
    exact this⟩
  have HK0 : Aside0 (W0.heap[w.heap.size]? = some (.cells #[.int .i64 a, .int .i64 b] 25 (0, 0))) := ⟨by rw [hW0]; exact blk_alloc (blk_new w _) _⟩
  have HW0 := Aside0.mk hW0
  have hk0 : W0.cell? ⟨w.heap.size, 0, none⟩ = some (.int .i64 a) := (blk_cell HK0.out 0).trans rfl
  clear hW0 s1
  go_enter Tryz.func77, Tryz.ntmps77
  go_upto_region 2 with (fail)
  rw [← HW0.out]
  clear HW0
  go_wp2_with (go_at_call 83; refine (impl_turns.calls k a ts _ HT.out).mono ?_; rintro e w1 ⟨vt, rfl, ht, hb⟩; obtain ⟨At, ct, evt⟩ := Kd.R_slice ht; subst evt; have HTR := Aside0.mk (Kd.R_lower ht HB0.out.size); have HR1 := Aside0.mk (Kd.R_below HR0.out hb); have HK1 := Aside0.mk (blk_below HK0.out hb); have HB1 := Aside0.mk (below_step HB0.out hb); clear ht hb HR0 HK0 HB0)
  obtain ⟨m, hm⟩ : ∃ m, m = ts.length := ⟨_, rfl⟩
  have HM := Aside0.mk hm
  rw [← hm]
  clear hm
  go_loopg [5, 13] m (fun gg v5 v13 wr => ∃ (rest : List S59) (out : List ByteArray) (i : Nat), v13 = .int .i64 (i : Int) ∧ i + rest.length = m ∧ rest.length ≤ gg ∧ Aside0 (ts.drop i = rest) ∧ Aside0 (out.length = i) ∧ Aside0 (impl_Lock_next.g k a b s rest out = some out1) ∧ Aside0 (Kd.R Kd.string 9 wr w.heap.size (fun _ => True) v5 out) ∧ Aside0 (Kd.R k59 59 wr w.heap.size (fun _ => True) (.slice At m ct) ts) ∧ Aside0 (wr.heap[w.heap.size]? = some (.cells #[.int .i64 a, .int .i64 b] 25 (0, 0))) ∧ Aside0 (Below w.heap.size w wr))
  case atStart => exact ⟨ts, [], 0, rfl, by have := HM.out; omega, by have := HM.out; omega, ⟨rfl⟩, ⟨rfl⟩, HG, HR1, ⟨by rw [HM.out]; exact HTR.out⟩, HK1, HB1⟩
  case round =>
    clear HR1 HTR HK1 HB1 HG
    obtain ⟨rest, out, i, rfl, hin, hg, HD, HOL, HG, HR, HTR, HK, HB⟩ := hrel
    cases rest with
    | nil =>
      have hlt : decide (i < m) = false := decide_eq_false (by simp at hin; omega)
      obtain rfl : out = out1 := by have := HG.out; simpa [impl_Lock_next.g] using this
      obtain ⟨g, c, evo, hge, _, _⟩ := Kd.R_form HR.out (by have := HO1.out; have := HL.out; omega)
      subst evo
      have hsr := sorted_calls k c g _ out r1 w wr HB.out hge HR.out (by have := HO1.out; have := HL.out; omega) HI.out
      have HGE := Aside0.mk hge
      clear hin hg HG hge
      go_wp2_with (go_at_call 85; refine hsr.mono ?_; rintro e w2 ⟨rfl, h1, h2, h3⟩; have H1 := Aside0.mk h1; have H2 := Aside0.mk h2; have H3 := Aside0.mk h3; clear h1 h2 h3)
      go_ret
      exact ⟨g, c, rfl, HGE.out, H1.out, H2.out, H3.out⟩
    | cons t rest =>
      have hlt : (i : Int) < (m : Int) := by simp at hin; omega
      have hltn : i < m := by omega
      have hltz : decide (i < m) = true := decide_eq_true hltn
      have hget : rd_T59 ts (i : Int) = t := by
        have := HD.out
        unfold rd_T59
        rw [Int.toNat_natCast, List.getD_eq_getElem?_getD]
        have h2 : ts[i]? = some t := by
          have h3 : (ts.drop i)[0]? = some t := by rw [this]; rfl
          rw [List.getElem?_drop] at h3
          simpa using h3
        rw [h2]
        rfl
      obtain ⟨ad, ead, hx0, hx1⟩ := at_T59 (Kd.R_reads' HTR.out).2.2 (i : Int) (by omega) (by have := HM.out; omega)
      subst ead
      rw [hget, Int.toNat_natCast] at hx0 hx1
      have h := HG.out
      rw [impl_Lock_next.g] at h
      obtain ⟨x, hx, hgn⟩ := Option.bind_eq_some_iff.mp h
      have HX := Aside0.mk hx
      have HGN := Aside0.mk hgn
      have HGG : Aside0 (rest.length < gk) := ⟨by simp at hg; omega⟩
      have HIN : Aside0 (i + 1 + rest.length = m) := ⟨by simp at hin; omega⟩
      have hk0 : wr.cell? ⟨w.heap.size, 0, none⟩ = some (.int .i64 a) := (blk_cell HK.out 0).trans rfl
      have hk1 : wr.cell? ⟨w.heap.size, 1, none⟩ = some (.int .i64 b) := (blk_cell HK.out 1).trans rfl
      have hk0a : (wr.alloc (.cells #[.int .i64 t.f0, .int .i64 t.f1] 59)).cell? ⟨w.heap.size, 0, none⟩ = some (.int .i64 a) := (World.cell?_alloc_lt _ _ _ (World.block_lt_of_cell? _ _ hk0)).trans hk0
      have hk1a : (wr.alloc (.cells #[.int .i64 t.f0, .int .i64 t.f1] 59)).cell? ⟨w.heap.size, 1, none⟩ = some (.int .i64 b) := (World.cell?_alloc_lt _ _ _ (World.block_lt_of_cell? _ _ hk1)).trans hk1
      have hf0 := blk_frozen HK.out 0
      have hf1 := blk_frozen HK.out 1
      obtain ⟨Ao, co, evo⟩ := Kd.R_slice HR.out
      subst evo
      clear h hx hgn hin hg HG
      go_wp2_with (first | (go_at_call 43; refine (impl_Lock_turned.calls k a b s t.f0 t.f1 x _ HX.out).mono ?_; rintro e w2 ⟨rfl, hb⟩; have HR2 := Aside0.mk (Kd.R_below (Kd.R_alloc HR.out _) hb); have HTR2 := Aside0.mk (Kd.R_below (Kd.R_alloc HTR.out _) hb); have HK2 := Aside0.mk (blk_below (blk_alloc HK.out _) hb); have HB2 := Aside0.mk (below_step (below_alloc HB.out _) hb); clear hb) | ((with_reducible refine gate_builtin (b := .append) (xs := #[.tmp 17, .tmp 22]) rfl ?_); at_builtin; refine Kd.R_append Kd.string (w0 := w) w.heap.size rfl (.tmp 17) (.tmp 22) 26 9 (.string ⟨#[]⟩) 16 rfl Tryz.underlying26 HIN9.out rfl (by decide) (by omega) (.slice Ao out.length co) out x [.string x] (fun _ => True) (fun _ => False) rfl rfl ?aP (fun _ hk => hk.elim) ?aF ?aO ?aB ?aS ?aL ?_; (case aP => exact rfl); (case aB => exact HB2.out); (case aF => exact (fun _ _ => trivial)); (case aO => exact HR2.out); (case aS => exact below_size HB2.out); (case aL => have := HOL.out; have := HM.out; have := HL.out; omega); intro v9 w9 ho hb hg hat; have HO9 := Aside0.mk ho; have HTR9 := Aside0.mk (Kd.R_over' HTR2.out (Kd.R_typed HR2.out) (by decide) hg); have HK9 := Aside0.mk (blk_grown HK2.out hg (Kd.R_ne HR2.out HK2.out (by decide))); have HB9 := Aside0.mk hb; clear ho hb hg hat))
      go_roundg (rest.length)
      case measure => exact HGG.out
      case rel => exact ⟨rest, out ++ [x], i + 1, by rw [show wrap64 ((i : Int) + 1) = ((i + 1 : Nat) : Int) from by unfold wrap64; have := HL.out; have := HM.out; have := HIN.out; omega], HIN.out, Nat.le_refl _, ⟨by rw [List.drop_add_one_eq_tail_drop, HD.out]; rfl⟩, ⟨by have := HOL.out; simp; omega⟩, HGN, HO9, HTR9, HK9, HB9⟩


/-! ### slices_Index_string_string: function 86 -/
def slices_Index_string_string.l0 : Nat → List ByteArray → ByteArray → Int → Int → Option (Int)
  | 0, _, _, _, _ => none
  | k + 1, x0, x1, x7, x8 => if x8 < x7 then (if 0 ≤ x8 then (if x8 < (x0.length : Int) then (if x1.toList = (rdOf ByteArray.empty x0 x8).toList then (some x8) else (slices_Index_string_string.l0 k x0 x1 x7 (wrap64 (x8 + 1)))) else (none)) else (none)) else (some (-1))
def slices_Index_string_string.f (k : Nat) (l0 : List ByteArray) (a1 : ByteArray) : Option (Int) := slices_Index_string_string.l0 k l0 a1 (l0.length : Int) 0
theorem slices_Index_string_string.mono_l : ∀ k, (∀ y0 y1 y2 y3, LeO (slices_Index_string_string.l0 k y0 y1 y2 y3) (slices_Index_string_string.l0 (k + 1) y0 y1 y2 y3))
  | 0 => fun _ _ _ _ r h => by simp [slices_Index_string_string.l0] at h
  | k + 1 => by
    have ih0 := slices_Index_string_string.mono_l k
    · intro y0 y1 y2 y3
      unfold slices_Index_string_string.l0
      repeat' first
      | (with_reducible first | exact ih0 _ _ _ _ | exact LeO.refl _ | exact LeO.none _ | refine LeO.ite ?_ ?_ | refine LeO.bind ?_ (fun _ => ?_))
      | exact ih0 _ _ _ _
      | exact LeO.none _
      | refine LeO.ite ?_ ?_
      | refine LeO.bind ?_ (fun _ => ?_)
theorem slices_Index_string_string.mono : ∀ a0 a1 k, LeO (slices_Index_string_string.f k a0 a1) (slices_Index_string_string.f (k + 1) a0 a1) := by
  intro a0 a1 k
  have ih0 := slices_Index_string_string.mono_l k
  unfold slices_Index_string_string.f
  repeat' first
      | (with_reducible first | exact ih0 _ _ _ _ | exact LeO.refl _ | exact LeO.none _ | refine LeO.ite ?_ ?_ | refine LeO.bind ?_ (fun _ => ?_))
      | exact ih0 _ _ _ _
      | exact LeO.none _
      | refine LeO.ite ?_ ?_
      | refine LeO.bind ?_ (fun _ => ?_)
theorem slices_Index_string_string.calls (k : Nat) (A0 : Option Addr) (c0 : Nat) (l0 : List ByteArray) (a1 : ByteArray) (r : Int) (w : World) (hr0 : Kd.C Kd.string w A0 l0.length l0) (hc0 : l0.length ≤ c0) (h : slices_Index_string_string.f k l0 a1 = some r) :
    Calls Tryz.prog 86 #[.slice A0 l0.length c0, .string a1] w fun e w' => e = .returned (.int .i64 r) ∧ Drawn0 w w' := by
  have HR0 := Aside0.mk hr0
  have HC0 := Aside0.mk hc0
  clear hr0 hc0
  have H := h
  unfold slices_Index_string_string.f at H
  clear h
  have H' := Aside0.mk H
  clear H
  go_enter Tryz.func86, Tryz.ntmps86
  go_wp2
  go_loopg [8] k (fun kq v8 w' => ∃ (x8_1 : Int), v8 = .int .i64 x8_1 ∧ Aside0 (slices_Index_string_string.l0 kq l0 a1 (l0.length : Int) x8_1 = some r) ∧ Aside0 (kq ≤ k) ∧ Drawn0 w w')
  case atStart => exact ⟨(0), fR, H', ⟨Nat.le_refl _⟩, by repeat (first | exact Drawn0.refl _ | apply Drawn0.step)⟩
  case round =>
    clear H'
    try clear p2
    obtain ⟨x8_1, rfl, HA, HK1, ⟨m1, rfl⟩⟩ := hrel
    cases gk with
    | zero => exact absurd HA.out (by simp [slices_Index_string_string.l0])
    | succ k1 =>
      have H := HA.out
      clear HA
      simp only [slices_Index_string_string.l0] at H
      by_cases c3 : x8_1 < (l0.length : Int)
      · rw [if_pos c3] at H
        have c3b0 : decide (x8_1 < (l0.length : Int)) = true := decide_eq_true c3
        clear c3
        replace H := nz H; obtain ⟨c4, H⟩ := H
        have c4b0 : decide (0 ≤ x8_1) = true := decide_eq_true c4
        clear c4
        replace H := nz H; obtain ⟨c5, H⟩ := H
        have c5b0 : decide (x8_1 < (l0.length : Int)) = true := decide_eq_true c5
        clear c5
        by_cases c6 : a1.toList = (rdOf ByteArray.empty l0 x8_1).toList
        · rw [if_pos c6] at H
          have c6b0 : (a1.toList == (rdOf ByteArray.empty l0 x8_1).toList) = true := beq_iff_eq.mpr c6
          have c6b1 : (a1.toList != (rdOf ByteArray.empty l0 x8_1).toList) = false := bne_eq_false_iff_eq.mpr c6
          clear c6
          obtain rfl := Option.some.inj H
          have p398 : 0 ≤ (x8_1 : Int) := oD
          have q398 : x8_1 < (l0.length : Int) := oD
          obtain ⟨ad398, e398, hx398_0⟩ := Kd.at_string HR0.out x8_1 p398 q398
          cases e398
          replace p398 := eq_true p398
          replace q398 := eq_true q398
          go_wp2
          go_ret
          exact ⟨fR, by repeat (first | exact Drawn0.refl _ | apply Drawn0.step)⟩
        · rw [if_neg c6] at H
          have c6b0 : (a1.toList == (rdOf ByteArray.empty l0 x8_1).toList) = false := beq_eq_false_iff_ne.mpr c6
          have c6b1 : (a1.toList != (rdOf ByteArray.empty l0 x8_1).toList) = true := bne_iff_ne.mpr c6
          have H' := Aside0.mk H
          clear H
          have p398 : 0 ≤ (x8_1 : Int) := oD
          have q398 : x8_1 < (l0.length : Int) := oD
          obtain ⟨ad398, e398, hx398_0⟩ := Kd.at_string HR0.out x8_1 p398 q398
          cases e398
          replace p398 := eq_true p398
          replace q398 := eq_true q398
          go_wp2
          go_roundg k1
          case measure => have := HK1.out; omega
          case rel => exact ⟨(wrap64 (x8_1 + 1)), fR, H', ⟨by have := HK1.out; omega⟩, by repeat (first | exact Drawn0.refl _ | apply Drawn0.step)⟩
      · rw [if_neg c3] at H
        have c3b0 : decide (x8_1 < (l0.length : Int)) = false := decide_eq_false c3
        clear c3
        obtain rfl := Option.some.inj H
        go_wp2
        go_ret
        exact ⟨fR, by repeat (first | exact Drawn0.refl _ | apply Drawn0.step)⟩

/-! ### slices_Contains_string_string: function 78 -/
def slices_Contains_string_string.f (k : Nat) (l0 : List ByteArray) (a1 : ByteArray) : Option (Bool) := (slices_Index_string_string.f k l0 a1).bind fun t399 => (some (decide (t399 ≥ 0)))
theorem slices_Contains_string_string.mono : ∀ a0 a1 k, LeO (slices_Contains_string_string.f k a0 a1) (slices_Contains_string_string.f (k + 1) a0 a1) := by
  intro a0 a1 k
  unfold slices_Contains_string_string.f
  repeat' first
      | (with_reducible first | exact slices_Index_string_string.mono _ _ _ | exact LeO.refl _ | exact LeO.none _ | refine LeO.ite ?_ ?_ | refine LeO.bind ?_ (fun _ => ?_))
      | exact slices_Index_string_string.mono _ _ _
      | exact LeO.none _
      | refine LeO.ite ?_ ?_
      | refine LeO.bind ?_ (fun _ => ?_)
theorem slices_Contains_string_string.calls (k : Nat) (A0 : Option Addr) (c0 : Nat) (l0 : List ByteArray) (a1 : ByteArray) (r : Bool) (w : World) (hr0 : Kd.C Kd.string w A0 l0.length l0) (hc0 : l0.length ≤ c0) (h : slices_Contains_string_string.f k l0 a1 = some r) :
    Calls Tryz.prog 78 #[.slice A0 l0.length c0, .string a1] w fun e w' => e = .returned (.bool r) ∧ Drawn0 w w' := by
  have HR0 := Aside0.mk hr0
  have HC0 := Aside0.mk hc0
  clear hr0 hc0
  have H := h
  unfold slices_Contains_string_string.f at H
  clear h
  replace H := Option.bind_eq_some_iff.mp H
  obtain ⟨t399, A30, H⟩ := H
  (try dsimp only at H)
  have A3 := Aside0.mk A30
  clear A30
  obtain rfl := Option.some.inj H
  go_enter Tryz.func78, Tryz.ntmps78
  go_wp2_with (first | ((with_reducible refine gate_callee (f := 86) rfl ?_); refine goesL_ (some 7) rfl rfl Tryz.func86 (by kernel_rfl) rfl #[.slice A0 l0.length c0, .string a1] rfl lM ?_; (with_reducible refine (slices_Index_string_string.calls k _ _ l0 a1 t399 _ ?side1 ?side2 A3.out).mono ?_); (case side1 => exact cS HR0.out); (case side2 => exact HC0.out); rintro e w' ⟨rfl, ⟨nd, rfl⟩⟩; refine ⟨_, rfl, ?_⟩))
  go_ret
  exact ⟨fR, by repeat (first | exact Drawn0.refl _ | apply Drawn0.step)⟩

/-! ### impl_Lock_wholes_1: function 75 -/
def whLoop (has : ByteArray → Option Bool) (rec : ByteArray → List ByteArray × Int × Int → Option (List ByteArray × Int × Int)) : List ByteArray → List ByteArray × Int × Int → Option (List ByteArray × Int × Int)
  | [], st => some st
  | s :: ns, st => (has s).bind fun h => if h = true then whLoop has rec ns st else (rec s st).bind fun st' => whLoop has rec ns st'
def whLast (way : List ByteArray) : ByteArray := rdOf ByteArray.empty way ((way.length : Int) - 1)
def whWalk (k : Nat) (a b : Int) : Nat → List ByteArray → List ByteArray × Int × Int → Option (List ByteArray × Int × Int)
  | 0, _, _ => none
  | d + 1, way, st => if way.length = 0 ∨ 100 ≤ way.length then none else
    (impl_Lock_count.f k a b).bind fun cnt => if (way.length : Int) = cnt then (impl_Lock_distance.f k a b (rdOf ByteArray.empty way 0) (whLast way)).bind fun t => some (if st.1 = [] then way else st.1, wrap64 (st.2.1 + 1), if t = 1 then wrap64 (st.2.2 + 1) else st.2.2)
      else (impl_Lock_next.f k a b (whLast way)).bind fun ns => if ns.length ≤ 100 then whLoop (fun s => slices_Contains_string_string.f k way s) (fun s st' => whWalk k a b d (way ++ [s]) st') ns st else none
theorem whLoop_mono {has has2 : ByteArray → Option Bool} {rec rec2 : ByteArray → List ByteArray × Int × Int → Option (List ByteArray × Int × Int)} (h1 : ∀ s, LeO (has s) (has2 s)) (h2 : ∀ s st, LeO (rec s st) (rec2 s st)) : ∀ ns st, LeO (whLoop has rec ns st) (whLoop has2 rec2 ns st)
  | [], _ => LeO.refl _
  | s :: ns, st => LeO.bind (h1 s) (fun h => LeO.ite (whLoop_mono h1 h2 ns st) (LeO.bind (h2 s st) (fun st' => whLoop_mono h1 h2 ns st')))
theorem whWalk_mono (k : Nat) (a b : Int) : ∀ d way st, LeO (whWalk k a b d way st) (whWalk (k + 1) a b d way st)
  | 0, _, _ => LeO.refl _
  | d + 1, way, st => by
    unfold whWalk
    exact LeO.ite (LeO.refl _) (LeO.bind (impl_Lock_count.mono _ _ _) (fun cnt => LeO.ite (LeO.bind (impl_Lock_distance.mono _ _ _ _ _) (fun t => LeO.refl _)) (LeO.bind (impl_Lock_next.mono _ _ _ _) (fun ns => LeO.ite (whLoop_mono (fun s => slices_Contains_string_string.mono _ _ _) (fun s st' => whWalk_mono k a b d _ st') ns st) (LeO.none _)))))
structure WhI (a b : Int) (base bl bw bh bf bc bk : Nat) (caps : Array Value) (way first : List ByteArray) (n c : Int) (vw vf : Value) (W : World) : Prop where
  hl : W.heap[bl]? = some (.cells #[.int .i64 a, .int .i64 b] 25 (0, 0))
  hw : W.heap[bw]? = some (.cells #[vw] 26 (0, 0))
  hh : W.heap[bh]? = some (.cells #[.int .i64 n] 3 (0, 0))
  hf : W.heap[bf]? = some (.cells #[vf] 26 (0, 0))
  hc : W.heap[bc]? = some (.cells #[.int .i64 c] 3 (0, 0))
  hk : W.heap[bk]? = some (.cells #[.func (.func 75) #[] caps] 1 (0, 0))
  rw : Kd.R Kd.string 9 W base (fun q => some q ≠ vf.ownBlock) vw way
  rf : Kd.R Kd.string 9 W base (fun q => some q ≠ vw.ownBlock) vf first
  nl : first = [] → vf = .slice none 0 0
structure WhB (base bl bw bh bf bc bk : Nat) : Prop where
  gw : base ≤ bw
  gh : base ≤ bh
  gf : base ≤ bf
  gc : base ≤ bc
  nd : [bl, bw, bh, bf, bc, bk].Nodup
def whCaps (bl bw bh bf bc bk : Nat) : Array Value := #[.pointer (some ⟨bw, 0, none⟩), .pointer (some ⟨bl, 0, none⟩), .pointer (some ⟨bh, 0, none⟩), .pointer (some ⟨bf, 0, none⟩), .pointer (some ⟨bc, 0, none⟩), .pointer (some ⟨bk, 0, none⟩)]
theorem WhI.below {a b : Int} {base bl bw bh bf bc bk : Nat} {caps : Array Value} {way first : List ByteArray} {n c : Int} {vw vf : Value} {W W' : World} (h : WhI a b base bl bw bh bf bc bk caps way first n c vw vf W) (hb : Below W.heap.size W W') : WhI a b base bl bw bh bf bc bk caps way first n c vw vf W' :=
  ⟨blk_below h.hl hb, blk_below h.hw hb, blk_below h.hh hb, blk_below h.hf hb, blk_below h.hc hb, blk_below h.hk hb, Kd.R_below h.rw hb, Kd.R_below h.rf hb, h.nl⟩
theorem WhI.setH {a b : Int} {base bl bw bh bf bc bk : Nat} {caps : Array Value} {way first : List ByteArray} {n c : Int} {vw vf : Value} {W : World} (B : WhB base bl bw bh bf bc bk) (h : WhI a b base bl bw bh bf bc bk caps way first n c vw vf W) (n' : Int) : WhI a b base bl bw bh bf bc bk caps way first n' c vw vf (W.setCell ⟨bh, 0, none⟩ (.int .i64 n')) :=
  ⟨blk_far h.hl (p := ⟨bh, 0, none⟩) (by intro e; have := B.nd; simp only [e] at this; simp at this) (.int .i64 n'),
   blk_far h.hw (p := ⟨bh, 0, none⟩) (by intro e; have := B.nd; simp only [e] at this; simp at this) (.int .i64 n'),
   blk_put (cs := #[.int .i64 n]) h.hh 0 (.int .i64 n') rfl,
   blk_far h.hf (p := ⟨bh, 0, none⟩) (by intro e; have := B.nd; simp only [e] at this; simp at this) (.int .i64 n'),
   blk_far h.hc (p := ⟨bh, 0, none⟩) (by intro e; have := B.nd; simp only [e] at this; simp at this) (.int .i64 n'),
   blk_far h.hk (p := ⟨bh, 0, none⟩) (by intro e; have := B.nd; simp only [e] at this; simp at this) (.int .i64 n'),
   Kd.R_set (h.rw) h.hh (by decide) 0 _,
   Kd.R_set (h.rf) h.hh (by decide) 0 _, h.nl⟩
theorem WhI.setC {a b : Int} {base bl bw bh bf bc bk : Nat} {caps : Array Value} {way first : List ByteArray} {n c : Int} {vw vf : Value} {W : World} (B : WhB base bl bw bh bf bc bk) (h : WhI a b base bl bw bh bf bc bk caps way first n c vw vf W) (c' : Int) : WhI a b base bl bw bh bf bc bk caps way first n c' vw vf (W.setCell ⟨bc, 0, none⟩ (.int .i64 c')) :=
  ⟨blk_far h.hl (p := ⟨bc, 0, none⟩) (by intro e; have := B.nd; simp only [e] at this; simp at this) (.int .i64 c'),
   blk_far h.hw (p := ⟨bc, 0, none⟩) (by intro e; have := B.nd; simp only [e] at this; simp at this) (.int .i64 c'),
   blk_far h.hh (p := ⟨bc, 0, none⟩) (by intro e; have := B.nd; simp only [e] at this; simp at this) (.int .i64 c'),
   blk_far h.hf (p := ⟨bc, 0, none⟩) (by intro e; have := B.nd; simp only [e] at this; simp at this) (.int .i64 c'),
   blk_put (cs := #[.int .i64 c]) h.hc 0 (.int .i64 c') rfl,
   blk_far h.hk (p := ⟨bc, 0, none⟩) (by intro e; have := B.nd; simp only [e] at this; simp at this) (.int .i64 c'),
   Kd.R_set (h.rw) h.hc (by decide) 0 _,
   Kd.R_set (h.rf) h.hc (by decide) 0 _, h.nl⟩
theorem WhI.setW {a b : Int} {base bl bw bh bf bc bk : Nat} {caps : Array Value} {way first : List ByteArray} {n c : Int} {vw vf : Value} {W : World} (B : WhB base bl bw bh bf bc bk) (h : WhI a b base bl bw bh bf bc bk caps way first n c vw vf W) (way' : List ByteArray) (vw' : Value) (r1 : Kd.R Kd.string 9 W base (fun q => some q ≠ vf.ownBlock) vw' way') (r2 : Kd.R Kd.string 9 W base (fun q => some q ≠ vw'.ownBlock) vf first) : WhI a b base bl bw bh bf bc bk caps way' first n c vw' vf (W.setCell ⟨bw, 0, none⟩ (vw')) :=
  ⟨blk_far h.hl (p := ⟨bw, 0, none⟩) (by intro e; have := B.nd; simp only [e] at this; simp at this) (vw'),
   blk_put (cs := #[vw]) h.hw 0 (vw') rfl,
   blk_far h.hh (p := ⟨bw, 0, none⟩) (by intro e; have := B.nd; simp only [e] at this; simp at this) (vw'),
   blk_far h.hf (p := ⟨bw, 0, none⟩) (by intro e; have := B.nd; simp only [e] at this; simp at this) (vw'),
   blk_far h.hc (p := ⟨bw, 0, none⟩) (by intro e; have := B.nd; simp only [e] at this; simp at this) (vw'),
   blk_far h.hk (p := ⟨bw, 0, none⟩) (by intro e; have := B.nd; simp only [e] at this; simp at this) (vw'),
   Kd.R_set (r1) h.hw (by decide) 0 _,
   Kd.R_set (r2) h.hw (by decide) 0 _, h.nl⟩
theorem WhI.setF {a b : Int} {base bl bw bh bf bc bk : Nat} {caps : Array Value} {way first : List ByteArray} {n c : Int} {vw vf : Value} {W : World} (B : WhB base bl bw bh bf bc bk) (h : WhI a b base bl bw bh bf bc bk caps way first n c vw vf W) (first' : List ByteArray) (vf' : Value) (r1 : Kd.R Kd.string 9 W base (fun q => some q ≠ vf'.ownBlock) vw way) (r2 : Kd.R Kd.string 9 W base (fun q => some q ≠ vw.ownBlock) vf' first') (r3 : first' = [] → vf' = .slice none 0 0) : WhI a b base bl bw bh bf bc bk caps way first' n c vw vf' (W.setCell ⟨bf, 0, none⟩ (vf')) :=
  ⟨blk_far h.hl (p := ⟨bf, 0, none⟩) (by intro e; have := B.nd; simp only [e] at this; simp at this) (vf'),
   blk_far h.hw (p := ⟨bf, 0, none⟩) (by intro e; have := B.nd; simp only [e] at this; simp at this) (vf'),
   blk_far h.hh (p := ⟨bf, 0, none⟩) (by intro e; have := B.nd; simp only [e] at this; simp at this) (vf'),
   blk_put (cs := #[vf]) h.hf 0 (vf') rfl,
   blk_far h.hc (p := ⟨bf, 0, none⟩) (by intro e; have := B.nd; simp only [e] at this; simp at this) (vf'),
   blk_far h.hk (p := ⟨bf, 0, none⟩) (by intro e; have := B.nd; simp only [e] at this; simp at this) (vf'),
   Kd.R_set (r1) h.hf (by decide) 0 _,
   Kd.R_set (r2) h.hf (by decide) 0 _, r3⟩
def WhF (bw bh bf bc : Nat) (vw : Value) (W W' : World) : Prop := W.heap.size ≤ W'.heap.size ∧ ∀ q, q < W.heap.size → q ≠ bw → q ≠ bh → q ≠ bf → q ≠ bc → some q ≠ vw.ownBlock → W'.heap[q]? = W.heap[q]?
theorem WhF.refl (bw bh bf bc : Nat) (vw : Value) (W : World) : WhF bw bh bf bc vw W W := ⟨Nat.le_refl _, fun _ _ _ _ _ _ _ => rfl⟩
theorem WhF.below {bw bh bf bc : Nat} {vw : Value} {W W1 W2 : World} (h : WhF bw bh bf bc vw W W1) (hb : Below W1.heap.size W1 W2) : WhF bw bh bf bc vw W W2 := ⟨Nat.le_trans h.1 hb.size, fun q h1 h2 h3 h4 h5 h6 => (hb.block q (Nat.lt_of_lt_of_le h1 h.1)).trans (h.2 q h1 h2 h3 h4 h5 h6)⟩
theorem WhF.set {bw bh bf bc : Nat} {vw : Value} {W W1 : World} (h : WhF bw bh bf bc vw W W1) {p : Addr} (hp : p.block = bw ∨ p.block = bh ∨ p.block = bf ∨ p.block = bc) (v : Value) : WhF bw bh bf bc vw W (W1.setCell p v) := ⟨by rw [World.size_setCell]; exact h.1, fun q h1 h2 h3 h4 h5 h6 => (Below.heap_setCell W1 p v q (by rcases hp with e | e | e | e <;> rw [e] <;> assumption)).trans (h.2 q h1 h2 h3 h4 h5 h6)⟩
theorem WhF.grown {bw bh bf bc : Nat} {vw : Value} {W W1 W2 : World} {row : Option Nat} (h : WhF bw bh bf bc vw W W1) (hg : W1.grownBy W2 row) (hr : row = vw.ownBlock ∨ ∃ q, row = some q ∧ W.heap.size ≤ q) : WhF bw bh bf bc vw W W2 := ⟨Nat.le_trans h.1 hg.size, fun q h1 h2 h3 h4 h5 h6 => (hg.block q (Nat.lt_of_lt_of_le h1 h.1) (by
    rcases hr with e | ⟨z, e, hz⟩
    · rw [e]; exact h6
    · rw [e]; intro e2; injection e2 with e2; omega)).trans (h.2 q h1 h2 h3 h4 h5 h6)⟩
theorem WhF.then_ {bw bh bf bc : Nat} {vw v1 : Value} {W W1 W2 : World} (h : WhF bw bh bf bc vw W W1) (hat : v1.ownBlock = vw.ownBlock ∨ ∃ q, v1.ownBlock = some q ∧ W.heap.size ≤ q) (h2 : WhF bw bh bf bc v1 W1 W2) : WhF bw bh bf bc vw W W2 := ⟨Nat.le_trans h.1 h2.1, fun q e1 e2 e3 e4 e5 e6 => (h2.2 q (Nat.lt_of_lt_of_le e1 h.1) e2 e3 e4 e5 (by
    rcases hat with e | ⟨z, e, hz⟩
    · rw [e]; exact e6
    · rw [e]; intro e7; injection e7 with e7; omega)).trans (h.2 q e1 e2 e3 e4 e5 e6)⟩
theorem whC_block {W W' : World} {g n : Nat} {xs : List ByteArray} (h : Kd.C Kd.string W (some ⟨g, 0, none⟩) n xs) (hb : W'.heap[g]? = W.heap[g]?) : Kd.C Kd.string W' (some ⟨g, 0, none⟩) n xs := by
  have hr := Kd.reads_of_C (enc := Value.string) (d := ByteArray.empty) (h1 := fun _ => rfl) h
  refine Kd.C_of_reads (enc := Value.string) (d := ByteArray.empty) (h1 := fun _ => rfl) ⟨hr.1, hr.2.1, fun hn => ?_⟩
  obtain ⟨ad, e, hc⟩ := hr.2.2 hn
  refine ⟨ad, e, fun j hj => ?_⟩
  rw [← hc j hj]
  injection e with e
  subst e
  have : ((⟨g, 0, none⟩ : Addr).add j).block = g := by unfold Addr.add; split <;> rfl
  unfold World.cell?
  rw [this, hb]
theorem WhI.grow {a b : Int} {base bl bw bh bf bc bk : Nat} {caps : Array Value} {way first way9 : List ByteArray} {n c : Int} {vw vf v9 : Value} {W W9 : World} (B : WhB base bl bw bh bf bc bk) (h : WhI a b base bl bw bh bf bc bk caps way first n c vw vf W) (hg : W.grownBy W9 vw.ownBlock) (hat : v9.ownBlock = vw.ownBlock ∨ ∃ b, v9.ownBlock = some b ∧ W.heap.size ≤ b) (ho : Kd.R Kd.string 9 W9 base (fun q => some q ≠ vf.ownBlock) v9 way9) :
    WhI a b base bl bw bh bf bc bk caps way9 first n c v9 vf (W9.setCell ⟨bw, 0, none⟩ v9) :=
  ⟨blk_far (blk_grown h.hl hg (Kd.R_ne h.rw h.hl (by decide))) (p := ⟨bw, 0, none⟩) (by intro e; have := B.nd; simp only [e] at this; simp at this) v9,
   blk_put (cs := #[vw]) (blk_grown h.hw hg (Kd.R_ne h.rw h.hw (by decide))) 0 v9 rfl,
   blk_far (blk_grown h.hh hg (Kd.R_ne h.rw h.hh (by decide))) (p := ⟨bw, 0, none⟩) (by intro e; have := B.nd; simp only [e] at this; simp at this) v9,
   blk_far (blk_grown h.hf hg (Kd.R_ne h.rw h.hf (by decide))) (p := ⟨bw, 0, none⟩) (by intro e; have := B.nd; simp only [e] at this; simp at this) v9,
   blk_far (blk_grown h.hc hg (Kd.R_ne h.rw h.hc (by decide))) (p := ⟨bw, 0, none⟩) (by intro e; have := B.nd; simp only [e] at this; simp at this) v9,
   blk_far (blk_grown h.hk hg (Kd.R_ne h.rw h.hk (by decide))) (p := ⟨bw, 0, none⟩) (by intro e; have := B.nd; simp only [e] at this; simp at this) v9,
   Kd.R_set ho (blk_grown h.hw hg (Kd.R_ne h.rw h.hw (by decide))) (by decide) 0 _,
   Kd.R_set (Kd.R_mono (Kd.R_after (ok := fun _ => True) (Kd.R_mono h.rf (fun _ hk => ⟨trivial, hk⟩)) hg hat) (fun _ hk => hk.2)) (blk_grown h.hw hg (Kd.R_ne h.rw h.hw (by decide))) (by decide) 0 _, h.nl⟩
def WhPost (a b : Int) (bl bw bh bf bc bk : Nat) (way first' : List ByteArray) (n' c' : Int) (vw : Value) (w0 W W' : World) : Prop := ∃ vw' vf', WhI a b w0.heap.size bl bw bh bf bc bk (whCaps bl bw bh bf bc bk) way first' n' c' vw' vf' W' ∧ Below w0.heap.size w0 W' ∧ (vw'.ownBlock = vw.ownBlock ∨ ∃ q, vw'.ownBlock = some q ∧ W.heap.size ≤ q) ∧ WhF bw bh bf bc vw W W'
theorem walk_calls (k : Nat) (a b : Int) (bl bw bh bf bc bk : Nat) (w0 : World) (B : WhB w0.heap.size bl bw bh bf bc bk) : ∀ (d : Nat) (way first : List ByteArray) (n c : Int) (first' : List ByteArray) (n' c' : Int) (vw vf : Value) (W : World),
    whWalk k a b d way (first, n, c) = some (first', n', c') → WhI a b w0.heap.size bl bw bh bf bc bk (whCaps bl bw bh bf bc bk) way first n c vw vf W → Below w0.heap.size w0 W →
    Calls Tryz.prog 75 (whCaps bl bw bh bf bc bk) W fun e W' => e = .returned (.tuple #[]) ∧ WhPost a b bl bw bh bf bc bk way first' n' c' vw w0 W W' := by
  intro d
  induction d with
  | zero => intro way first n c first' n' c' vw vf W h; exact absurd h (by simp [whWalk])
  | succ d ih =>
    intro way first n c first' n' c' vw vf W h hI hB
    have IH := Aside0.mk ih
    clear ih
    unfold whWalk at h
    split at h
    case isTrue => exact absurd h (by simp)
    rename_i hlen
    obtain ⟨cnt, hcnt, h⟩ := Option.bind_eq_some_iff.mp h
    obtain ⟨m, hm⟩ : ∃ m, m = way.length := ⟨_, rfl⟩
    obtain ⟨j, hj⟩ : ∃ j, m = j + 1 := ⟨m - 1, by omega⟩
    have hmb : m < 100 := by omega
    obtain ⟨g, cp, evw, hge, hglt, _⟩ := Kd.R_form hI.rw (by omega)
    have hcell := (Kd.R_cell (enc := Value.string) (h1 := fun _ => rfl) ByteArray.empty (by have := hI.rw; rw [evw] at this; exact this) (j : Int) (by omega) (by omega)).1
    rw [← hm] at evw
    have hlast : rdOf ByteArray.empty way (j : Int) = whLast way := by
      unfold whLast
      rw [← hm, hj]
      congr 1
      omega
    rw [hlast, Int.toNat_natCast] at hcell
    subst evw
    have hvw : W.cell? ⟨bw, 0, none⟩ = some (.slice (some ⟨g, 0, none⟩) m cp) := (blk_cell hI.hw 0).trans rfl
    have hl0 : W.cell? ⟨bl, 0, none⟩ = some (.int .i64 a) := (blk_cell hI.hl 0).trans rfl
    have hl1 : W.cell? ⟨bl, 1, none⟩ = some (.int .i64 b) := (blk_cell hI.hl 1).trans rfl
    have hw1 : IntKind.i64.wrap ((m : Int) - 1) = (j : Int) := by simp [IntKind.wrap, IntKind.bits, IntKind.signed]; omega
    have hjm : (j : Int) < (m : Int) := by omega
    have hjm2 : j < m := by omega
    have HI := Aside0.mk hI
    have HB := Aside0.mk hB
    have HM := Aside0.mk hm
    have HJ := Aside0.mk hj
    have HL := Aside0.mk hlen
    have HGE := Aside0.mk hge
    have HGL := Aside0.mk hglt
    have HCNT := Aside0.mk hcnt
    have H := Aside0.mk h
    clear hI hB hm hj hlen hge hcnt h hglt
    unfold whCaps
    go_enter Tryz.func75, Tryz.ntmps75
    go_upto_region 1 with (fail)
    go_cut [19] from 15 to 19 (fun v19 wx => v19 = .bool ((m : Int) == cnt) ∧ Aside0 (Below W.heap.size W wx))
    case first =>
      go_region_held3 (fun w' => w'.cell? ⟨bw, 0, none⟩ = some (.slice (some ⟨g, 0, none⟩) m cp) ∧ w'.cell? ⟨bl, 0, none⟩ = some (.int .i64 a) ∧ w'.cell? ⟨bl, 1, none⟩ = some (.int .i64 b)) (first | go_keep | exact ⟨hd0, hd1, hd2⟩) (first | (go_at_call 44; refine (impl_Lock_count.calls k a b cnt _ HCNT.out).mono ?_; rintro e w1 ⟨rfl, hb⟩; have hb1 : Below W.heap.size W w1 := below_then (below_drew (Below.refl _ _)) (Nat.le_refl _) hb; have hi1 := HI.out.below hb1; have HB1 := Aside0.mk hb1; have hd0 : w1.cell? ⟨bw, 0, none⟩ = some (.slice (some ⟨g, 0, none⟩) m cp) := (blk_cell hi1.hw 0).trans rfl; have hd1 : w1.cell? ⟨bl, 0, none⟩ = some (.int .i64 a) := (blk_cell hi1.hl 0).trans rfl; have hd2 : w1.cell? ⟨bl, 1, none⟩ = some (.int .i64 b) := (blk_cell hi1.hl 1).trans rfl; clear hb hb1 hi1))
      all_goals (go_wp2_with (fail); go_meet; exact ⟨rfl, HB1⟩)
    case rest =>
      clear hcell hvw hl0 hl1 hw1 hjm hjm2
      obtain ⟨rfl, HB1⟩ := hcut
      have HI1 := Aside0.mk (HI.out.below HB1.out)
      clear HI
      have h := H.out
      have hsz := HB1.out.size
      by_cases hq : (way.length : Int) = cnt
      · rw [if_pos hq] at h
        obtain ⟨t, ht, h⟩ := Option.bind_eq_some_iff.mp h
        have hqb : ((m : Int) == cnt) = true := by rw [HM.out]; simp [hq]
        obtain ⟨h1, h2, h3⟩ : (if first = [] then way else first) = first' ∧ wrap64 (n + 1) = n' ∧ (if t = 1 then wrap64 (c + 1) else c) = c' := by simpa using h
        have H1 := Aside0.mk h1
        have H2 := Aside0.mk h2
        have H3 := Aside0.mk h3
        have HT := Aside0.mk ht
        clear h h1 h2 h3 ht H hq
        rw [hqb]
        have HF1 : Aside0 (WhF bw bh bf bc (.slice (some ⟨g, 0, none⟩) m cp) W wc) := ⟨(WhF.refl _ _ _ _ _ _).below HB1.out⟩
        have HB2 := Aside0.mk (below_step HB.out HB1.out)
        have hh0 : wc.cell? ⟨bh, 0, none⟩ = some (.int .i64 n) := (blk_cell HI1.out.hh 0).trans rfl
        have hhf := blk_frozen HI1.out.hh 0
        go_upto_region 3 with (fail)
        have HI2 := Aside0.mk (HI1.out.setH B (wrap64 (n + 1)))
        have HF2 := Aside0.mk (HF1.out.set (p := ⟨bh, 0, none⟩) (.inr (.inl rfl)) (.int .i64 (wrap64 (n + 1))))
        have HB3 := Aside0.mk (below_set (j := 0) (v := .int .i64 (wrap64 (n + 1))) HB2.out B.gh)
        obtain ⟨W2, hW2⟩ : ∃ W2, W2 = wc.setCell ⟨bh, 0, none⟩ (.int .i64 (wrap64 (n + 1))) := ⟨_, rfl⟩
        rw [← hW2] at HI2 HF2 HB3 ⊢
        clear hW2 HI1 HF1 HB2 hh0 hhf HB1
        have hu24 := Tryz.underlying26
        obtain ⟨Af, cf, evf⟩ := Kd.R_slice HI2.out.rf
        subst evf
        have hc1 : W2.cell? ⟨bf, 0, none⟩ = some (.slice Af first.length cf) := (blk_cell HI2.out.hf 0).trans rfl
        have hnil : ∀ W, (binOp .eql 26 (.slice Af first.length cf) (.slice none 0 0)).run Tryz.prog W = .ok (.bool (decide (first = []))) W := by
          intro W
          by_cases hf : first = []
          · rw [HI2.out.nl hf, decide_eq_true hf]
            exact Lib.run_eql_slice_nil W _ _ none _ _ 0 0 hu24
          · obtain ⟨gf, cf, evf, _⟩ := Kd.R_form HI2.out.rf (by cases first; exact absurd rfl hf; simp)
            rw [evf, decide_eq_false hf]
            exact Lib.run_eql_slice_nil W _ _ (some ⟨gf, 0, none⟩) _ _ 0 0 hu24
        go_upto_if 23 with (fail)
        go_cut [] from 23 to 25 (fun wx => ∃ vf', Aside0 (WhI a b w0.heap.size bl bw bh bf bc bk (whCaps bl bw bh bf bc bk) way first' n' c (.slice (some ⟨g, 0, none⟩) m cp) vf' wx) ∧ Aside0 (WhF bw bh bf bc (.slice (some ⟨g, 0, none⟩) m cp) W wx) ∧ Aside0 (Below w0.heap.size w0 wx))
        case first =>
          by_cases hf : first = []
          · have h1 := H1.out
            rw [if_pos hf] at h1
            have H1' := Aside0.mk h1
            clear h1
            have hfd : decide (first = []) = true := decide_eq_true hf
            have hvw : W2.cell? ⟨bw, 0, none⟩ = some (.slice (some ⟨g, 0, none⟩) m cp) := (blk_cell HI2.out.hw 0).trans rfl
            have hcl := cloneS_calls (some ⟨g, 0, none⟩) cp way W2 (Kd.R_reads' HI2.out.rw).2.2 (by have := HL.out; omega)
            rw [← HM.out] at hcl
            clear hf
            rw [hfd]
            go_wp2_with (go_at_call 76; refine hcl.mono ?_; rintro e w3 ⟨v0, rfl, hr, hb⟩; obtain ⟨A0, c0, ev0⟩ := Kd.R_slice hr; subst ev0; have HR3 := Aside0.mk hr; have HB4 := Aside0.mk hb; have hff3 := blk_frozen (blk_below HI2.out.hf hb) 0; have hcf3 : w3.cell? ⟨bf, 0, none⟩ = some (.slice Af first.length cf) := (blk_cell (blk_below HI2.out.hf hb) 0).trans rfl; clear hr hb hcl)
            go_meet
            obtain rfl := H1'.out
            have hI3 := HI2.out.below HB4.out
            have hne : way ≠ [] := by intro e; have := HM.out; have := HJ.out; rw [e] at *; simp at *; omega
            refine ⟨.slice A0 way.length c0, ⟨?_⟩, ⟨(HF2.out.below HB4.out).set (p := ⟨bf, 0, none⟩) (.inr (.inr (.inl rfl))) _⟩, ⟨below_set (below_step HB3.out HB4.out) B.gf⟩⟩
            rw [← H2.out]
            exact hI3.setF B way _ (Kd.R_mono (Kd.R_elder' HI2.out.rw (Kd.R_base HR3.out) HB4.out) (fun _ hk => hk.2)) (Kd.R_mono (Kd.R_lower (Kd.R_new' HR3.out (Kd.R_lt HI2.out.rw)) (below_size HB3.out)) (fun _ hk => hk.2)) (fun e => absurd e hne)
          · have h1 := H1.out
            rw [if_neg hf] at h1
            have H1' := Aside0.mk h1
            clear h1
            have hfd : decide (first = []) = false := decide_eq_false hf
            clear hf
            rw [hfd]
            go_wp2
            go_meet
            obtain rfl := H1'.out
            exact ⟨_, ⟨by rw [← H2.out]; exact HI2.out⟩, HF2, HB3⟩
        case rest =>
          clear hc1 hnil HI2 HF2 HB3
          obtain ⟨vf', HI3, HF3, HB3⟩ := hcut
          obtain ⟨W3, rfl⟩ : ∃ W3, W3 = wc := ⟨_, rfl⟩
          have hvw : W3.cell? ⟨bw, 0, none⟩ = some (.slice (some ⟨g, 0, none⟩) m cp) := (blk_cell HI3.out.hw 0).trans rfl
          have hl0 : W3.cell? ⟨bl, 0, none⟩ = some (.int .i64 a) := (blk_cell HI3.out.hl 0).trans rfl
          have hl1 : W3.cell? ⟨bl, 1, none⟩ = some (.int .i64 b) := (blk_cell HI3.out.hl 1).trans rfl
          have hzero : ∀ {W' : World} {v : Value}, WhI a b w0.heap.size bl bw bh bf bc bk (whCaps bl bw bh bf bc bk) way first' n' c (.slice (some ⟨g, 0, none⟩) m cp) v W' → W'.cell? ⟨g, 0, none⟩ = some (.string (rdOf ByteArray.empty way 0)) := fun hh => (Kd.R_cell (enc := Value.string) (h1 := fun _ => rfl) ByteArray.empty (by have := hh.rw; rw [HM.out] at this; exact this) 0 (by omega) (by have := HM.out; have := HJ.out; omega)).1
          have hg0 := hzero HI3.out
          have hm0 : (0 : Int) < (m : Int) := by have := HJ.out; omega
          have hm0n : 0 < m := by have := HJ.out; omega
          go_upto_region 5 with (fail)
          go_cut [32] from 26 to 32 (fun v32 wx => v32 = .bool (t == 1) ∧ Aside0 (Below W3.heap.size W3 wx))
          case first =>
            go_region_held3 (fun w' => w'.cell? ⟨bw, 0, none⟩ = some (.slice (some ⟨g, 0, none⟩) m cp) ∧ w'.cell? ⟨bl, 0, none⟩ = some (.int .i64 a) ∧ w'.cell? ⟨bl, 1, none⟩ = some (.int .i64 b) ∧ w'.cell? ⟨g, 0, none⟩ = some (.string (rdOf ByteArray.empty way 0))) (first | go_keep | exact ⟨hd0, hd1, hd2, hd3⟩) (first | (go_at_call 69; refine (impl_Lock_distance.calls k a b _ _ t _ HT.out).mono ?_; rintro e w1 ⟨rfl, hb⟩; have hb1 : Below W3.heap.size W3 w1 := below_then (below_drew (Below.refl _ _)) (Nat.le_refl _) hb; have hi1 := HI3.out.below hb1; have HB1 := Aside0.mk hb1; have hd0 : w1.cell? ⟨bw, 0, none⟩ = some (.slice (some ⟨g, 0, none⟩) m cp) := (blk_cell hi1.hw 0).trans rfl; have hd1 : w1.cell? ⟨bl, 0, none⟩ = some (.int .i64 a) := (blk_cell hi1.hl 0).trans rfl; have hd2 : w1.cell? ⟨bl, 1, none⟩ = some (.int .i64 b) := (blk_cell hi1.hl 1).trans rfl; have hd3 := hzero hi1; clear hb hb1 hi1))
            all_goals (go_wp2_with (fail); go_meet; exact ⟨rfl, HB1⟩)
          case rest =>
            clear hvw hl0 hl1 hg0
            obtain ⟨rfl, HB4⟩ := hcut
            have HI4 := Aside0.mk (HI3.out.below HB4.out)
            have HF4 := Aside0.mk (HF3.out.below HB4.out)
            have HB5 := Aside0.mk (below_step HB3.out HB4.out)
            clear HI3 HF3 HB3 HB4
            have hcc : wc.cell? ⟨bc, 0, none⟩ = some (.int .i64 c) := (blk_cell HI4.out.hc 0).trans rfl
            have hcf := blk_frozen HI4.out.hc 0
            by_cases ht : t = 1
            · have htb : (t == 1) = true := by simp [ht]
              rw [htb]
              have h3 := H3.out
              rw [if_pos ht] at h3
              have H3' := Aside0.mk h3
              clear h3 ht
              go_wp2
              refine bodyPost_ret (results_none rfl _ _ _) rfl ?_
              refine ⟨rfl, _, vf', ?_, below_set HB5.out B.gc, .inl rfl, HF4.out.set (p := ⟨bc, 0, none⟩) (.inr (.inr (.inr rfl))) _⟩
              rw [← H3'.out]
              exact HI4.out.setC B _
            · have htb : (t == 1) = false := by simp [ht]
              rw [htb]
              have h3 := H3.out
              rw [if_neg ht] at h3
              have H3' := Aside0.mk h3
              clear h3 ht
              go_wp2
              refine bodyPost_ret (results_none rfl _ _ _) rfl ?_
              exact ⟨rfl, _, vf', by rw [← H3'.out]; exact HI4.out, HB5.out, .inl rfl, HF4.out⟩
      · rw [if_neg hq] at h
        obtain ⟨ns, hns, h⟩ := Option.bind_eq_some_iff.mp h
        split at h
        case isFalse => exact absurd h (by simp)
        rename_i hnl
        have hqb : ((m : Int) == cnt) = false := by rw [HM.out]; simp [hq]
        rw [hqb]
        have HW := Aside0.mk h
        have HNS := Aside0.mk hns
        have HNL := Aside0.mk hnl
        have HF1 : Aside0 (WhF bw bh bf bc (.slice (some ⟨g, 0, none⟩) m cp) W wc) := ⟨(WhF.refl _ _ _ _ _ _).below HB1.out⟩
        have HB2 := Aside0.mk (below_step HB.out HB1.out)
        clear h hns hnl hq H
        have hl0 : wc.cell? ⟨bl, 0, none⟩ = some (.int .i64 a) := (blk_cell HI1.out.hl 0).trans rfl
        have hl1 : wc.cell? ⟨bl, 1, none⟩ = some (.int .i64 b) := (blk_cell HI1.out.hl 1).trans rfl
        have hlf0 := blk_frozen HI1.out.hl 0
        have hlf1 := blk_frozen HI1.out.hl 1
        go_wp2_with (go_at_call 77; refine (impl_Lock_next.calls k a b (whLast way) ns _ HNS.out).mono ?_; rintro e w1 ⟨g0, c0, rfl, hg0, hC, hle, hb⟩; have HC := Aside0.mk hC; have HG0 := Aside0.mk hg0; have HI2 := Aside0.mk (HI1.out.below hb); have HF2 := Aside0.mk (HF1.out.below hb); have HB3 := Aside0.mk (below_step HB2.out hb); have HSZ := Aside0.mk hb.size; clear hC hg0 hle hb)
        have hgv : some g ≠ some g0 := by
          intro e
          injection e with e
          have h1 := HI1.out.rw
          have h2 := Kd.R_lt h1 g rfl
          have := HG0.out
          omega
        have hgd : g0 ≠ bw ∧ g0 ≠ bh ∧ g0 ≠ bf ∧ g0 ≠ bc := by
          have h1 := blk_lt HI1.out.hw
          have h2 := blk_lt HI1.out.hh
          have h3 := blk_lt HI1.out.hf
          have h4 := blk_lt HI1.out.hc
          have := HG0.out
          omega
        have HGV : Aside0 ((.slice (some ⟨g, 0, none⟩) m cp : Value).ownBlock ≠ some g0) := ⟨hgv⟩
        have HGD := Aside0.mk hgd
        obtain ⟨mn, hmn⟩ : ∃ mn, mn = ns.length := ⟨_, rfl⟩
        have HMN := Aside0.mk hmn
        rw [← hmn] at HC ⊢
        clear hmn hgv hgd hl0 hl1 hlf0 hlf1 HI1 HF1 HB2
        go_loopg [39] mn (fun gg v39 wr => ∃ (rest : List ByteArray) (i : Nat) (f1 : List ByteArray) (n1 c1 : Int) (vw vf : Value), v39 = .int .i64 (i : Int) ∧ i + rest.length = mn ∧ rest.length ≤ gg ∧ Aside0 (ns.drop i = rest) ∧ Aside0 (whLoop (fun s => slices_Contains_string_string.f k way s) (fun s st' => whWalk k a b d (way ++ [s]) st') rest (f1, n1, c1) = some (first', n', c')) ∧ Aside0 (WhI a b w0.heap.size bl bw bh bf bc bk (whCaps bl bw bh bf bc bk) way f1 n1 c1 vw vf wr) ∧ Aside0 (Below w0.heap.size w0 wr) ∧ Aside0 (vw.ownBlock = (.slice (some ⟨g, 0, none⟩) m cp : Value).ownBlock ∨ ∃ q, vw.ownBlock = some q ∧ W.heap.size ≤ q) ∧ Aside0 (WhF bw bh bf bc (.slice (some ⟨g, 0, none⟩) m cp) W wr) ∧ Aside0 (Kd.C Kd.string wr (some ⟨g0, 0, none⟩) mn ns) ∧ Aside0 (vw.ownBlock ≠ some g0))
        case atStart => exact ⟨ns, 0, first, n, c, _, vf, rfl, by have := HMN.out; omega, by have := HMN.out; omega, ⟨rfl⟩, HW, HI2, HB3, ⟨.inl rfl⟩, HF2, HC, HGV⟩
        case round =>
          clear HW HI2 HF2 HB3 HC HGV HB
          obtain ⟨rest, i, f1, n1, c1, vw, vf1, rfl, hin, hg, HD, HW, HI2, HB, HAT, HF, HC, HGV⟩ := hrel
          cases rest with
          | nil =>
            have hlt : decide (i < mn) = false := decide_eq_false (by simp at hin; omega)
            obtain ⟨e1, e2, e3⟩ : f1 = first' ∧ n1 = n' ∧ c1 = c' := by have := HW.out; simpa [whLoop] using this
            have E1 := Aside0.mk e1
            have E2 := Aside0.mk e2
            have E3 := Aside0.mk e3
            clear e1 e2 e3 hin hg HW
            go_wp2
            go_end0
            exact ⟨rfl, vw, vf1, by rw [← E1.out, ← E2.out, ← E3.out]; exact HI2.out, HB.out, HAT.out, HF.out⟩
          | cons s rest =>
            have hlt : (i : Int) < (mn : Int) := by simp at hin; omega
            have hltn : i < mn := by omega
            have hltz : decide (i < mn) = true := decide_eq_true hltn
            have hget : rdOf ByteArray.empty ns (i : Int) = s := by
              have := HD.out
              unfold rdOf
              rw [Int.toNat_natCast, List.getD_eq_getElem?_getD]
              have h2 : ns[i]? = some s := by
                have h3 : (ns.drop i)[0]? = some s := by rw [this]; rfl
                rw [List.getElem?_drop] at h3
                simpa using h3
              rw [h2]
              rfl
            obtain ⟨ad, ead, hx⟩ := Kd.at_string HC.out (i : Int) (by omega) hlt
            injection ead with ead
            subst ead
            rw [hget, Int.toNat_natCast, show (⟨g0, 0, none⟩ : Addr).add i = ⟨g0, i, none⟩ by unfold Addr.add; split <;> simp_all] at hx
            have h := HW.out
            rw [whLoop] at h
            obtain ⟨hs, hhas, h⟩ := Option.bind_eq_some_iff.mp h
            obtain ⟨gv, cv, evv, hgve, _, _⟩ := Kd.R_form HI2.out.rw (by have := HM.out; have := HJ.out; omega)
            rw [← HM.out] at evv
            subst evv
            have hvw : wr.cell? ⟨bw, 0, none⟩ = some (.slice (some ⟨gv, 0, none⟩) m cv) := (blk_cell HI2.out.hw 0).trans rfl
            have hcon : Calls Tryz.prog 78 #[.slice (some ⟨gv, 0, none⟩) m cv, .string s] wr fun e w' => e = .returned (.bool hs) ∧ Drawn0 wr w' := by
              have hr := Kd.R_reads' HI2.out.rw
              have := slices_Contains_string_string.calls k (some ⟨gv, 0, none⟩) cv way s hs wr hr.2.2 (by rw [← HM.out]; exact hr.2.1) hhas
              rw [← HM.out] at this
              exact this
            have HGG : Aside0 (rest.length < gk) := ⟨by simp at hg; omega⟩
            have HIN : Aside0 (i + 1 + rest.length = mn) := ⟨by simp at hin; omega⟩
            have hwr1 : wrap64 ((i : Int) + 1) = ((i + 1 : Nat) : Int) := by unfold wrap64; have := HNL.out; have := HMN.out; omega
            have HWR := Aside0.mk hwr1
            have HS := Aside0.mk h
            clear hin hg HW h hhas hwr1 hgve
            have info9 : (Tryz.prog.info? 9).map (fun i => (i.zero, i.size, i.bytes)) = some (some (.string ⟨#[]⟩), 1, 16) := by kernel_rfl
            have HIN9 := Aside0.mk info9
            clear info9
            cases hs with
            | true =>
              have h := HS.out
              rw [if_pos rfl] at h
              have HS2 := Aside0.mk h
              clear h HS
              go_wp2_with (go_at_call 78; refine hcon.mono ?_; rintro e w' ⟨rfl, ⟨nd, rfl⟩⟩; have HBD := Aside0.mk (pw_below_drewN (Below.refl wr.heap.size wr) nd))
              go_roundg (rest.length)
              case measure => exact HGG.out
              case rel => exact ⟨rest, i + 1, f1, n1, c1, _, vf1, by rw [HWR.out], HIN.out, Nat.le_refl _, ⟨by rw [List.drop_add_one_eq_tail_drop, HD.out]; rfl⟩, HS2, ⟨HI2.out.below HBD.out⟩, ⟨below_step HB.out HBD.out⟩, HAT, ⟨HF.out.below HBD.out⟩, ⟨Kd.C_below HC.out HBD.out⟩, HGV⟩
            | false =>
              have h := HS.out
              rw [if_neg (by decide)] at h
              obtain ⟨⟨f2, n2, c2⟩, hrec, h⟩ := Option.bind_eq_some_iff.mp h
              have HREC := Aside0.mk hrec
              have HS2 := Aside0.mk h
              clear h hrec HS
              have hbf := blk_frozen HI2.out.hw 0
              go_upto_region 12 with (first | (go_at_call 78; refine hcon.mono ?_; rintro e w' ⟨rfl, ⟨nd, rfl⟩⟩; have HBD := Aside0.mk (pw_below_drewN (Below.refl wr.heap.size wr) nd); have HI3 := Aside0.mk (HI2.out.below HBD.out); have HB3 := Aside0.mk (below_step HB.out HBD.out); have HF3 := Aside0.mk (HF.out.below HBD.out); have HC3 := Aside0.mk (Kd.C_below HC.out HBD.out); clear HI2 HB HF HC hcon) | ((with_reducible refine gate_builtin (b := .append) (xs := #[.tmp 47, .tmp 49]) rfl ?_); at_builtin; refine Kd.R_append Kd.string (w0 := w0) w0.heap.size rfl (.tmp 47) (.tmp 49) 26 9 (.string ⟨#[]⟩) 16 rfl Tryz.underlying26 HIN9.out rfl (by decide) (by omega) (.slice (some ⟨gv, 0, none⟩) m cv) way s [.string s] (fun q => some q ≠ vf1.ownBlock) (fun _ => False) rfl rfl ?aP (fun _ hk => hk.elim) ?aF ?aO ?aB ?aS ?aL ?_; (case aP => exact rfl); (case aB => exact HB3.out); (case aF => exact (fun q hq e => by have := Kd.R_lt HI3.out.rf q e.symm; omega)); (case aO => exact HI3.out.rw); (case aS => exact below_size HB3.out); (case aL => have := HL.out; omega); intro v9 w9 ho hb hg hat; obtain ⟨A9, c9, ev9⟩ := Kd.R_slice ho; subst ev9; have HO9 := Aside0.mk ho; have HB9 := Aside0.mk hb; have HG9 := Aside0.mk hg; have HA9 := Aside0.mk hat; have hcw9 : w9.cell? ⟨bw, 0, none⟩ = some (.slice (some ⟨gv, 0, none⟩) m cv) := (blk_cell (blk_grown HI3.out.hw hg (Kd.R_ne HI3.out.rw HI3.out.hw (by decide))) 0).trans rfl; have hfw9 := blk_frozen (blk_grown HI3.out.hw hg (Kd.R_ne HI3.out.rw HI3.out.hw (by decide))) 0; clear ho hb hg hat))
              have hl9 : (way ++ [s]).length = way.length + 1 := by simp
              rw [hl9] at HO9 HA9
              have HI6 := Aside0.mk (HI3.out.grow B HG9.out HA9.out HO9.out)
              have HB6 := Aside0.mk (below_set (j := 0) (v := .slice A9 (way.length + 1) c9) HB9.out B.gw)
              have HF6 := Aside0.mk ((HF3.out.grown HG9.out HAT.out).set (p := ⟨bw, 0, none⟩) (.inl rfl) (.slice A9 (way.length + 1) c9))
              have hg0lt : g0 < (wr.drewN nd).heap.size := by
                have h1 := HG0.out
                have := HGD.out
                obtain ⟨hn1, hn2⟩ : 0 < mn ∧ True := ⟨by omega, trivial⟩
                obtain ⟨ad2, e2, hx2⟩ := Kd.at_string HC3.out 0 (by omega) (by omega)
                injection e2 with e2
                subst e2
                exact World.block_lt_of_cell? _ _ hx2
              have HC6 : Aside0 (Kd.C Kd.string (w9.setCell ⟨bw, 0, none⟩ (.slice A9 (way.length + 1) c9)) (some ⟨g0, 0, none⟩) mn ns) := ⟨whC_block HC3.out ((Below.heap_setCell w9 ⟨bw, 0, none⟩ _ g0 HGD.out.1).trans (HG9.out.block g0 hg0lt (fun e => HGV.out e.symm)))⟩
              have HGV6 : Aside0 ((.slice A9 (way.length + 1) c9 : Value).ownBlock ≠ some g0) := ⟨by
                rcases HA9.out with e | ⟨q, e, hq⟩
                · rw [e]; exact HGV.out
                · rw [e]; intro e2; injection e2 with e2; omega⟩
              have HAT6 : Aside0 ((.slice A9 (way.length + 1) c9 : Value).ownBlock = (.slice (some ⟨g, 0, none⟩) m cp : Value).ownBlock ∨ ∃ q, (.slice A9 (way.length + 1) c9 : Value).ownBlock = some q ∧ W.heap.size ≤ q) := ⟨by
                rcases HA9.out with e | ⟨q, e, hq⟩
                · rw [e]; exact HAT.out
                · exact .inr ⟨q, e, Nat.le_trans HF3.out.1 hq⟩⟩
              have HLT6 : Aside0 (g0 < (w9.setCell ⟨bw, 0, none⟩ (.slice A9 (way.length + 1) c9)).heap.size) := ⟨by rw [World.size_setCell]; exact Nat.lt_of_lt_of_le hg0lt HG9.out.size⟩
              obtain ⟨W6, hW6⟩ : ∃ W6, W6 = w9.setCell ⟨bw, 0, none⟩ (.slice A9 (way.length + 1) c9) := ⟨_, rfl⟩
              rw [← hW6] at HI6 HB6 HF6 HC6 HLT6 ⊢
              clear hW6 HI3 HB3 HF3 HC3 HO9 HB9 HG9 HA9 hcw9 hfw9 hg0lt hl9 hbf HGV HAT
              have hk6 : W6.cell? ⟨bk, 0, none⟩ = some (.func (.func 75) #[] (whCaps bl bw bh bf bc bk)) := (blk_cell HI6.out.hk 0).trans rfl
              have hcall := IH.out (way ++ [s]) f1 n1 c1 f2 n2 c2 _ _ W6 HREC.out HI6.out HB6.out
              unfold whCaps at hk6 hcall
              go_upto_region 13 with (go_at_call 75; refine hcall.mono ?_; rintro e w10 ⟨rfl, hp⟩; have HP := Aside0.mk hp; clear hp)
              obtain ⟨vw', vf', hI, hB, hat, hF⟩ := HP.out
              obtain ⟨m1, hm1⟩ : ∃ m1, m1 = m + 1 := ⟨_, rfl⟩
              have hl1 : (way ++ [s]).length = m1 := by rw [hm1, HM.out]; simp
              obtain ⟨g10, c10, ev, _, _, _⟩ := Kd.R_form hI.rw (by rw [hl1]; omega)
              rw [hl1] at ev
              subst ev
              have hroom := (Kd.R_reads' hI.rw).2.1
              have htk := Kd.R_take (m := m) hI.rw (by rw [hl1]; omega)
              rw [show (way ++ [s]).take m = way by rw [HM.out]; simp] at htk
              have HI7 := Aside0.mk (hI.setW B way (.slice (some ⟨g10, 0, none⟩) m c10) htk hI.rf)
              have HB7 := Aside0.mk (below_set (j := 0) (v := .slice (some ⟨g10, 0, none⟩) m c10) hB B.gw)
              have HF7 := Aside0.mk ((HF6.out.then_ HAT6.out hF).set (p := ⟨bw, 0, none⟩) (.inl rfl) (.slice (some ⟨g10, 0, none⟩) m c10))
              have HC7 : Aside0 (Kd.C Kd.string (w10.setCell ⟨bw, 0, none⟩ (.slice (some ⟨g10, 0, none⟩) m c10)) (some ⟨g0, 0, none⟩) mn ns) := ⟨whC_block HC6.out ((Below.heap_setCell w10 ⟨bw, 0, none⟩ _ g0 HGD.out.1).trans (hF.2 g0 HLT6.out HGD.out.1 HGD.out.2.1 HGD.out.2.2.1 HGD.out.2.2.2 (fun e => HGV6.out e.symm)))⟩
              have HGV7 : Aside0 ((.slice (some ⟨g10, 0, none⟩) m c10 : Value).ownBlock ≠ some g0) := ⟨by
                rcases hat with e | ⟨q, e, hq⟩
                · intro e2; exact HGV6.out (e.symm.trans e2)
                · intro e2; have e3 := e.symm.trans e2; injection e3 with e3; have := HLT6.out; omega⟩
              have HAT7 : Aside0 ((.slice (some ⟨g10, 0, none⟩) m c10 : Value).ownBlock = (.slice (some ⟨g, 0, none⟩) m cp : Value).ownBlock ∨ ∃ q, (.slice (some ⟨g10, 0, none⟩) m c10 : Value).ownBlock = some q ∧ W.heap.size ≤ q) := ⟨by
                rcases hat with e | ⟨q, e, hq⟩
                · rcases HAT6.out with e2 | ⟨q2, e2, hq2⟩
                  · exact .inl (e.trans e2)
                  · exact .inr ⟨q2, e.trans e2, hq2⟩
                · exact .inr ⟨q, e, Nat.le_trans HF6.out.1 hq⟩⟩
              have hcw10 : w10.cell? ⟨bw, 0, none⟩ = some (.slice (some ⟨g10, 0, none⟩) m1 c10) := (blk_cell hI.hw 0).trans rfl
              have hfw10 := blk_frozen hI.hw 0
              obtain ⟨i0, hi0, _, hsz9, _⟩ := info_parts HIN9.out
              have hcut := cut_to (P := Tryz.prog) 26 9 .i64 Tryz.underlying26 hi0 (some ⟨g10, 0, none⟩) m1 c10 (m : Int) (by omega) (by omega) hroom
              rw [Int.toNat_natCast] at hcut
              have hws : IntKind.i64.wrap ((m1 : Int) - 1) = (m : Int) := by simp [IntKind.wrap, IntKind.bits, IntKind.signed]; omega
              have HM1 := Aside0.mk hm1
              clear HI6 HB6 HF6 HC6 HGV6 HAT6 HLT6 hk6 hcall HP hI hB hat hF htk hroom hm1 hl1 hi0 hsz9
              go_wp2
              go_roundg (rest.length)
              case measure => exact HGG.out
              case rel => exact ⟨rest, i + 1, f2, n2, c2, _, vf', by rw [HWR.out], HIN.out, Nat.le_refl _, ⟨by rw [List.drop_add_one_eq_tail_drop, HD.out]; rfl⟩, HS2, HI7, HB7, HAT7, HF7, HC7, HGV7⟩


/-! ### impl_Lock_wholes: function 47 -/
def impl_Lock_wholes.f (k : Nat) (a b : Int) : Option (List ByteArray × Int × Int) := (impl_Lock_code.f k a b 0).bind fun z => whWalk k a b 20 [z] ([], 0, 0)
theorem impl_Lock_wholes.mono : ∀ a b k, LeO (impl_Lock_wholes.f k a b) (impl_Lock_wholes.f (k + 1) a b) := fun a b k => LeO.bind (impl_Lock_code.mono _ _ _ _) (fun z => whWalk_mono k a b 20 [z] ([], 0, 0))
theorem impl_Lock_wholes.calls (k : Nat) (a b : Int) (r1 : List ByteArray) (r2 r3 : Int) (w : World) (h : impl_Lock_wholes.f k a b = some (r1, r2, r3)) :
    Calls Tryz.prog 47 #[.agg #[.int .i64 a, .int .i64 b]] w fun e w' => ∃ v0_ : Value, e = .returned (.tuple #[v0_, .int .i64 r2, .int .i64 r3]) ∧ Kd.R Kd.string 9 w' w.heap.size (fun _ => True) v0_ r1 ∧ Below w.heap.size w w' := by
  have hu23 := Tryz.underlying25
  unfold impl_Lock_wholes.f at h
  obtain ⟨z, hz, h⟩ := Option.bind_eq_some_iff.mp h
  have HZ := Aside0.mk hz
  have HW := Aside0.mk h
  clear hz h
  obtain ⟨W0, hW0⟩ : ∃ W0, W0 = w.alloc (.cells #[.int .i64 a, .int .i64 b] 25) := ⟨_, rfl⟩
  have HB0 : Aside0 (Below w.heap.size w W0) := ⟨by rw [hW0]; exact below_alloc (Below.refl _ _) _⟩
  have HK0 : Aside0 (W0.heap[w.heap.size]? = some (.cells #[.int .i64 a, .int .i64 b] 25 (0, 0))) := ⟨by rw [hW0]; exact blk_new w _⟩
  have HW0 := Aside0.mk hW0
  have hk0 : W0.cell? ⟨w.heap.size, 0, none⟩ = some (.int .i64 a) := (blk_cell HK0.out 0).trans rfl
  have hk1 : W0.cell? ⟨w.heap.size, 1, none⟩ = some (.int .i64 b) := (blk_cell HK0.out 1).trans rfl
  clear hW0
  go_enter Tryz.func47, Tryz.ntmps47
  go_upto_region 1 with (fail)
  rw [← HW0.out]
  clear HW0
  have hst : ∀ (W : World) (ad : Addr) (f : Fn) (bs caps : Array Value), (store ad (.func f bs caps)).run Tryz.prog W = stored Tryz.prog W ad (.func f bs caps) .plain := fun W ad f bs caps => run_store Tryz.prog W ad _ _ rfl
  go_upto_region 4 with (go_at_call 51; refine (impl_Lock_code.calls k a b 0 z _ HZ.out).mono ?_; rintro e w1 ⟨rfl, hb⟩; have HB1 := Aside0.mk (below_step HB0.out hb); have HK1 := Aside0.mk (blk_below HK0.out hb); clear hb HB0 HK0)
  obtain ⟨N, hN⟩ : ∃ N, N = w1.heap.size := ⟨_, rfl⟩
  have hlt : w.heap.size < N := by rw [hN]; exact blk_lt HK1.out
  obtain ⟨caps, hcaps⟩ : ∃ caps, caps = whCaps w.heap.size (N + 1) (N + 1 + 1 + 1) (N + 1 + 1) (N + 1 + 1 + 1 + 1) (N + 1 + 1 + 1 + 1 + 1) := ⟨_, rfl⟩
  have B : WhB w.heap.size w.heap.size (N + 1) (N + 1 + 1 + 1) (N + 1 + 1) (N + 1 + 1 + 1 + 1) (N + 1 + 1 + 1 + 1 + 1) := ⟨by omega, by omega, by omega, by omega, by simp; omega⟩
  have e1 : (w1.alloc (.cells #[.string z] 9)).heap.size = N + 1 := by rw [World.size_alloc, hN]
  have e2 : ∀ o2, ((w1.alloc (.cells #[.string z] 9)).alloc o2).heap.size = N + 1 + 1 := fun o2 => by rw [World.size_alloc, e1]
  have e3 : ∀ o2 o3, (((w1.alloc (.cells #[.string z] 9)).alloc o2).alloc o3).heap.size = N + 1 + 1 + 1 := fun o2 o3 => by rw [World.size_alloc, e2]
  have e4 : ∀ o2 o3 o4, ((((w1.alloc (.cells #[.string z] 9)).alloc o2).alloc o3).alloc o4).heap.size = N + 1 + 1 + 1 + 1 := fun o2 o3 o4 => by rw [World.size_alloc, e3]
  have e5 : ∀ o2 o3 o4 o5, (((((w1.alloc (.cells #[.string z] 9)).alloc o2).alloc o3).alloc o4).alloc o5).heap.size = N + 1 + 1 + 1 + 1 + 1 := fun o2 o3 o4 o5 => by rw [World.size_alloc, e4]
  obtain ⟨W5, hW5⟩ : ∃ W5, W5 = (((((w1.alloc (.cells #[.string z] 9)).alloc (.cells #[.slice (some ⟨N, 0, none⟩) 1 1] 26)).alloc (.cells #[.slice none 0 0] 26)).alloc (.cells #[.int .i64 0] 3)).alloc (.cells #[.int .i64 0] 3)).alloc (.cells #[.func (.func 75) #[] caps] 1) := ⟨_, rfl⟩
  have hrow : Kd.R Kd.string 9 (w1.alloc (.cells #[.string z] 9)) w.heap.size (fun q => some q ≠ (Value.slice none 0 0).ownBlock) (.slice (some ⟨N, 0, none⟩) 1 1) [z] :=
    hw_R_lit Kd.string w1 9 w.heap.size N (xs := [z]) (inner := [.string z]) (okp := fun _ => False) hN (Reps.one (show Kd.M Kd.string _ _ _ z [.string z] from rfl) (Reps.none _ _)) (fun _ hk => hk.elim) (by simp [Value.ownBlock]) (by omega) (by simp)
  have HI : WhI a b w.heap.size w.heap.size (N + 1) (N + 1 + 1 + 1) (N + 1 + 1) (N + 1 + 1 + 1 + 1) (N + 1 + 1 + 1 + 1 + 1) caps [z] [] 0 0 (.slice (some ⟨N, 0, none⟩) 1 1) (.slice none 0 0) W5 := by
    rw [hW5]
    refine ⟨blk_alloc (blk_alloc (blk_alloc (blk_alloc (blk_alloc (blk_alloc HK1.out _) _) _) _) _) _, ?_, ?_, ?_, ?_, ?_, Kd.R_alloc (Kd.R_alloc (Kd.R_alloc (Kd.R_alloc (Kd.R_alloc hrow _) _) _) _) _, Kd.R_nil _ _ _ _ _, fun _ => rfl⟩
    · rw [← e1]; exact blk_alloc (blk_alloc (blk_alloc (blk_alloc (blk_new _ _) _) _) _) _
    · rw [← e3]; exact blk_alloc (blk_alloc (blk_new _ _) _) _
    · rw [← e2]; exact blk_alloc (blk_alloc (blk_alloc (blk_new _ _) _) _) _
    · rw [← e4]; exact blk_alloc (blk_new _ _) _
    · rw [← e5]; exact blk_new _ _
  have HB5 : Below w.heap.size w W5 := by rw [hW5]; exact below_alloc (below_alloc (below_alloc (below_alloc (below_alloc (below_alloc HB1.out _) _) _) _) _) _
  rw [hcaps] at HI
  have hk5 : W5.cell? ⟨N + 1 + 1 + 1 + 1 + 1, 0, none⟩ = some (.func (.func 75) #[] (whCaps w.heap.size (N + 1) (N + 1 + 1 + 1) (N + 1 + 1) (N + 1 + 1 + 1 + 1) (N + 1 + 1 + 1 + 1 + 1))) := (blk_cell HI.hk 0).trans rfl
  have hcall := walk_calls k a b w.heap.size (N + 1) (N + 1 + 1 + 1) (N + 1 + 1) (N + 1 + 1 + 1 + 1) (N + 1 + 1 + 1 + 1 + 1) w B 20 [z] [] 0 0 r1 r2 r3 _ _ W5 HW.out HI HB5
  rw [hcaps] at hW5
  unfold whCaps at hk5 hcall hW5
  rw [← hN, ← hW5]
  clear hW5 hcaps hrow HI HB5 e1 e2 e3 e4 e5 hst hN HK1 HB1 hk0 hk1
  go_upto_region 5 with (go_at_call 75; refine hcall.mono ?_; rintro e w2 ⟨rfl, hp⟩; have HP := Aside0.mk hp; clear hp hcall)
  obtain ⟨vw', vf', hI, hB, hat, hF⟩ := HP.out
  have hc1 : w2.cell? ⟨N + 1 + 1, 0, none⟩ = some vf' := (blk_cell hI.hf 0).trans rfl
  have hc2 : w2.cell? ⟨N + 1 + 1 + 1, 0, none⟩ = some (.int .i64 r2) := (blk_cell hI.hh 0).trans rfl
  have hc3 : w2.cell? ⟨N + 1 + 1 + 1 + 1, 0, none⟩ = some (.int .i64 r3) := (blk_cell hI.hc 0).trans rfl
  obtain ⟨Af, cf, evf⟩ := Kd.R_slice hI.rf
  subst evf
  have HRF := Aside0.mk (Kd.R_mono hI.rf (ok' := fun _ => True) (fun _ _ => trivial))
  have HBF := Aside0.mk hB
  clear HP hI hB hat hF hk5
  go_region
  go_wp2
  go_ret3
  exact ⟨_, rfl, Kd.R_drew HRF.out, below_drew HBF.out⟩

end Go.Proofs.YthpmpkmdjpaemaaGreat.P
