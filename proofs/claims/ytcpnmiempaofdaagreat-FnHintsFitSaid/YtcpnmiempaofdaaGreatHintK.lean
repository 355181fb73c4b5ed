import Derived.Test.YtcpnmiempaofdaaGreatHintD
namespace Go.Proofs.YtcpnmiempaofdaaGreat.Pure
open Go.RowKit Go.Proofs.YtcpnmiempaofdaaGreat.G Go.Proofs.YtcpnmiempaofdaaGreatW.PrintWords Go.Proofs.YtcpnmiempaofdaaGreatW.PrintLast Go.Proofs.YtcpnmiempaofdaaGreatW.PrintMore
set_option linter.unusedVariables false
theorem bt_ext {g c : ByteArray} (hs : g.size = c.size) (h : ∀ i, i < g.size → bt g (i : Int) = bt c (i : Int)) : g = c := by
 apply ByteArray.ext
 apply Array.ext
 ·exact hs
 ·intro i h1 h2
  have h1' : i < g.size := h1
  have h2' : i < c.size := h2
  have := h i h1'
  unfold bt at this
  simp only [Int.toNat_natCast, h1', h2', dif_pos] at this
  have h3 : (g[i]'h1').toNat = (c[i]'h2').toNat := by omega
  exact UInt8.toNat.inj h3
theorem toL_inj {a b : ByteArray} (h : a.toList = b.toList) : a = b := by
 rw [Lib.toList_data, Lib.toList_data] at h
 apply ByteArray.ext
 exact Array.toList_inj.mp h
theorem dcode_onto (d : Nat) (hd : 2 ≤ d) : ∀ (w : Nat) (f : Nat → Nat), (∀ i, i < w → f i < d) → ∃ n, n < d ^ w ∧ dcode d w n = (List.range w).map (fun i => ((f i : Nat) : Int))
 | 0, _, _ => ⟨0, by simp, rfl⟩
 | w + 1, f, h => by
  obtain ⟨n, hn, he⟩ := dcode_onto d hd w f (fun i hi => h i (by omega))
  have hf := h w (by omega)
  refine ⟨d * n + f w, ?_, ?_⟩
  ·rw [Nat.pow_succ]
   have : d * n + d ≤ d ^ w * d := by
    have := Nat.mul_le_mul_left d (show n + 1 ≤ d ^ w from hn)
    rw [Nat.mul_add, Nat.mul_one, Nat.mul_comm d (d ^ w)] at this
    exact this
   omega
  ·rw [dcode, Nat.mul_add_div (by omega), Nat.div_eq_of_lt hf, Nat.add_zero, he, Nat.mul_add_mod, Nat.mod_eq_of_lt hf, List.range_succ, List.map_append]
   rfl
theorem code_all (w d : Nat) (hw1 : 1 ≤ w) (hw : w ≤ 6) (hd : 2 ≤ d ∧ d ≤ 10) {c : ByteArray} (h : codeB w d c = true) : c ∈ allC w d := by
 obtain ⟨h1, h2⟩ := codeB_iff.mp h
 have hs : c.size = w := by omega
 obtain ⟨n, hn, he⟩ := dcode_onto d hd.1 w (fun i => (bt c (i : Int) - 48).toNat) (fun i hi => by have := h2 i (by omega); omega)
 have hc : c = codeT w d n := by
  refine bt_ext (by rw [codeT_size]; exact hs) (fun i hi => ?_)
  have hl : i < (dcode d w n).length := by rw [dcode_len]; omega
  unfold codeT
  rw [bt_txt _ (fun x hx => (dcode_digL d hd w n hw).2 x hx) i hl]
  have hb := h2 i hi
  have : (dcode d w n)[i] = (((bt c (i : Int) - 48).toNat : Nat) : Int) := by
   simp only [he, List.getElem_map, List.getElem_range]
  rw [this]
  omega
 rw [hc]
 exact List.mem_map.mpr ⟨n, List.mem_range.mpr hn, rfl⟩
end Go.Proofs.YtcpnmiempaofdaaGreat.Pure
