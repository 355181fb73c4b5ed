/- Chapter 6: a play by first fitting codes: what both sides come to. -/
import Derived.Test.YtcpnmiempaofdaaGreatCx0
import Derived.Test.YtcpnmiempaofdaaGreatCx4
import Derived.Test.YtcpnmiempaofdaaGreatCx5
import Derived.Test.YtcpnmiempaofdaaGreatCx7
import Derived.Test.YtcpnmiempaofdaaGreatHintD
namespace Go.Proofs.YtcpnmiempaofdaaGreat.Pure
open Go.RowKit Go.Proofs.YtcpnmiempaofdaaGreat.C Go.Proofs.YtcpnmiempaofdaaGreatW.PrintWords Go.Proofs.YtcpnmiempaofdaaGreatW.PrintLast Go.Proofs.YtcpnmiempaofdaaGreatW.PrintMore
set_option linter.unusedVariables false

theorem plc_self (g : ByteArray) : ∀ n, plcN g g n = n
  | 0 => rfl
  | n + 1 => by rw [plcN, plc_self g n, if_pos rfl]; omega
theorem plc_full (g c : ByteArray) : ∀ n : Nat, plcN g c n = n → ∀ i, i < n → bt g (i : Int) = bt c (i : Int)
  | 0, _, i, hi => by omega
  | n + 1, h, i, hi => by
    rw [plcN] at h
    have hb := plcN_bd g c n
    by_cases he : bt g (n : Int) = bt c (n : Int)
    · rw [if_pos he] at h
      rcases Nat.lt_succ_iff_lt_or_eq.mp hi with h1 | h1
      · exact plc_full g c n (by omega) i h1
      · rw [h1]; exact he
    · rw [if_neg he] at h
      omega
theorem bt_ext {g c : ByteArray} (hs : g.size = c.size) (h : ∀ i, i < g.size → bt g (i : Int) = bt c (i : Int)) : g = c := by
  apply ByteArray.ext
  apply Array.ext
  · exact hs
  · intro i h1 h2
    have h1' : i < g.size := h1
    have h2' : i < c.size := h2
    have := h i h1'
    unfold bt at this
    simp only [Int.toNat_natCast, h1', h2', dif_pos] at this
    have h3 : (g[i]'h1').toNat = (c[i]'h2').toNat := by omega
    exact UInt8.toNat.inj h3
/-- A guess's hint for a code. -/
def hOf (g c : ByteArray) : S35 := ⟨g, (hintV g c).1, (hintV g c).2⟩
def playP (c : ByteArray) : Nat → List ByteArray → List S35
  | 0, _ => []
  | m + 1, l => hOf (rdOf ByteArray.empty l 0) c :: (if (rdOf ByteArray.empty l 0).toList = c.toList then [] else playP c m (l.filter (fitsB [hOf (rdOf ByteArray.empty l 0) c])))
def goodL (n : Nat) (c : ByteArray) (l : List ByteArray) : Prop := c ∈ l ∧ ∀ x ∈ l, digsB x ∧ x.size = n
theorem good_head {n : Nat} {c : ByteArray} {l : List ByteArray} (h : goodL n c l) : 0 < l.length ∧ rdOf ByteArray.empty l 0 ∈ l := by
  cases l with
  | nil => exact absurd h.1 (by simp)
  | cons x xs => exact ⟨by simp, by simp [rdOf]⟩
theorem fits_hOf (g c x : ByteArray) : fitsB [hOf g c] x = decide ((hintV g x).1 = (hintV g c).1 ∧ (hintV g x).2 = (hintV g c).2) := by
  unfold fitsB fitB hOf
  simp
theorem good_next {n : Nat} {c : ByteArray} {l : List ByteArray} (h : goodL n c l) (he : ¬ (rdOf ByteArray.empty l 0).toList = c.toList) :
    goodL n c (l.filter (fitsB [hOf (rdOf ByteArray.empty l 0) c])) ∧ (l.filter (fitsB [hOf (rdOf ByteArray.empty l 0) c])).length < l.length := by
  obtain ⟨h0, hg⟩ := good_head h
  generalize rdOf ByteArray.empty l 0 = g at he hg
  refine ⟨⟨List.mem_filter.mpr ⟨h.1, by rw [fits_hOf]; simp⟩, fun x hx => h.2 x (List.mem_filter.mp hx).1⟩, ?_⟩
  rw [List.length_filter_lt_length_iff_exists]
  refine ⟨g, hg, ?_⟩
  rw [fits_hOf]
  intro hc
  have h1 := (of_decide_eq_true hc).1
  unfold hintV at h1
  simp only [plc_self] at h1
  have hs : g.size = c.size := by rw [(h.2 g hg).2, (h.2 c h.1).2]
  have := plc_full g c g.size h1.symm
  exact he (by rw [bt_ext hs this])
theorem playP_length (n : Nat) (c : ByteArray) : ∀ (m : Nat) (l : List ByteArray), goodL n c l → l.length ≤ m → (playP c m l).length ≤ l.length ∧ 0 < (playP c m l).length
  | 0, l, h, hl => by have := (good_head h).1; omega
  | m + 1, l, h, hl => by
    have h0 := (good_head h).1
    rw [playP]
    by_cases he : (rdOf ByteArray.empty l 0).toList = c.toList
    · rw [if_pos he]; simp; omega
    · rw [if_neg he]
      have hn := good_next h he
      have := (playP_length n c m _ hn.1 (by omega)).1
      simp only [List.length_cons]
      omega
theorem hOf_ok {n : Nat} {g c : ByteArray} (hg : digsB g) (hs : g.size = n) : okH n [hOf g c] := ⟨by simp, fun x hx => by rw [List.mem_singleton] at hx; subst hx; exact ⟨hg, hs⟩⟩
theorem hiPlay_l0 (n : Nat) (c : ByteArray) : ∀ (m : Nat) (l : List ByteArray) (out : List S35), goodL n c l → l.length ≤ m → m ≤ 1000000 → out.length + m ≤ 1000000 → Ev (fun K => spec_hiPlay.l0 K c out l) (out ++ playP c m l)
  | 0, l, out, h, hl, _, _ => by have := (good_head h).1; omega
  | m + 1, l, out, h, hl, hm, ho => by
    obtain ⟨h0, hg⟩ := good_head h
    have hgd := h.2 _ hg
    have hcd := h.2 _ h.1
    refine Ev.step (fun k => by rw [spec_hiPlay.l0]) ?_
    refine Ev.pos (by omega) (Ev.let_ (specHint_some _ c hgd.1 (by omega)) (Ev.pos (by omega) (Ev.let_ rfl ?_)))
    rw [playP]
    by_cases he : (rdOf ByteArray.empty l 0).toList = c.toList
    · rw [if_pos he]
      exact Ev.pos he (Ev.now _)
    · rw [if_neg he]
      have hn := good_next h he
      refine Ev.neg he (Ev.bind (hiFitting_ev n [hOf (rdOf ByteArray.empty l 0) c] (hOf_ok hgd.1 hgd.2) l (by omega) (fun x hx => (h.2 x hx).2)) ?_)
      refine Ev.val (hiPlay_l0 n c m _ (out ++ [hOf (rdOf ByteArray.empty l 0) c]) hn.1 (by omega) (by omega) (by simp; omega)) ?_
      rw [List.append_assoc]
      rfl
theorem filO_ev {α : Type} {p : Nat → α → Option Bool} {q : α → Bool} : ∀ l : List α, (∀ x ∈ l, Ev (fun K => p K x) (!q x)) → Ev (fun K => filO (p K) l) (l.filter q)
  | [], _ => Ev.now _
  | x :: xs, h => by
    refine Ev.bind (h x List.mem_cons_self) ?_
    have ih := filO_ev xs (fun y hy => h y (List.mem_cons_of_mem _ hy))
    rw [List.filter_cons]
    by_cases hq : q x = true
    · rw [hq, if_pos rfl]
      refine Ev.neg (by decide) (Ev.congr (f := fun K => (filO (p K) xs).bind fun r => some (x :: r)) (fun K => by rw [Option.map_eq_bind]; rfl) (Ev.bind ih (Ev.now _)))
    · rw [if_neg hq]
      exact Ev.pos (by rw [Bool.eq_false_iff.mpr hq]; rfl) ih
theorem play1_ev (n : Nat) (g c x : ByteArray) (hg : digsB g ∧ g.size = n) (hx : digsB x ∧ x.size = n) : Ev (fun K => play1 K (hOf g c) x) (!fitsB [hOf g c] x) := by
  unfold play1
  exact Ev.congr (f := fun K => (impl_fits.f K [hOf g c] x).bind fun b => some (!b)) (fun K => by rw [Option.map_eq_bind]; rfl) (Ev.bind (implFits_ev n _ (hOf_ok hg.1 hg.2) x hx.1 hx.2) (Ev.now _))
def capV (out l : List S35) : List S35 × Bool := if out.length + l.length ≤ 200 then (out ++ l, true) else ([], false)
theorem playL_ev (n : Nat) (c : ByteArray) : ∀ (m m' : Nat) (l : List ByteArray) (out : List S35), goodL n c l → l.length ≤ m → m ≤ 1000000 → m' + out.length = 202 → out.length ≤ 200 → Ev (fun K => playL K c m' out l) (capV out (playP c m l))
  | 0, _, l, out, h, hl, _, _, _ => by have := (good_head h).1; omega
  | m + 1, 0, l, out, h, hl, hm, h1, h2 => by omega
  | m + 1, m' + 1, l, out, h, hl, hm, h1, h2 => by
    obtain ⟨h0, hg⟩ := good_head h
    have hgd := h.2 _ hg
    have hcd := h.2 _ h.1
    have hp := (playP_length n c (m + 1) l h hl).2
    refine Ev.congr (fun K => by rw [playL]) ?_
    by_cases h200 : out.length < 200
    · refine Ev.pos h200 (Ev.pos ⟨h0, by omega⟩ (Ev.bind (implHint_ev _ c hgd.1 hcd.1 (by omega)) ?_))
      rw [playP]
      by_cases he : (rdOf ByteArray.empty l 0).toList = c.toList
      · rw [if_pos he]
        refine Ev.pos he (Ev.val (Ev.now _) ?_)
        unfold capV
        rw [if_pos (by simp; omega)]
        rfl
      · rw [if_neg he]
        have hn := good_next h he
        refine Ev.neg he (Ev.bind (filO_ev l (fun x hx => play1_ev n _ c x hgd (h.2 x hx))) ?_)
        refine Ev.val (playL_ev n c m m' _ (out ++ [hOf (rdOf ByteArray.empty l 0) c]) hn.1 (by omega) (by omega) (by simp; omega) (by simp; omega)) ?_
        unfold capV
        simp only [List.length_append, List.length_cons, List.length_nil, List.append_assoc]
        by_cases hk : out.length + ((playP c m (l.filter (fitsB [hOf (rdOf ByteArray.empty l 0) c]))).length + 1) ≤ 200
        · rw [if_pos hk, if_pos (by omega)]
          rfl
        · rw [if_neg hk, if_neg (by omega)]
    · refine Ev.neg h200 (Ev.val (Ev.now _) ?_)
      unfold capV
      rw [if_neg (by omega)]
theorem fitC_nil (w d : Nat) : fitC w d [] = allC w d := List.filter_eq_self.mpr (fun _ _ => rfl)
/-- All of a play. -/
def playT (w d : Nat) (c : ByteArray) : List S35 := playP c (d ^ w) (allC w d)
theorem all_good (w d : Nat) (hw1 : 1 ≤ w) (hw : w ≤ 6) (hd : 2 ≤ d ∧ d ≤ 10) {c : ByteArray} (hc : c ∈ allC w d) : goodL w c (allC w d) :=
  ⟨hc, fun x hx => by obtain ⟨n, _, rfl⟩ := allC_mem hx; exact ⟨codeT_digs w d n hw hd hw1, codeT_size w d n⟩⟩
theorem specPlay_ev (w d : Nat) (hw1 : 1 ≤ w) (hw : w ≤ 6) (hd : 2 ≤ d ∧ d ≤ 10) {c : ByteArray} (hc : c ∈ allC w d) : Ev (fun K => spec_hiPlay.f K w d c) (playT w d c) := by
  have hp := pow_lock hw hd.1 hd.2
  unfold spec_hiPlay.f
  refine Ev.bind (hiAll_ev w d hw1 hw hd) ?_
  have := hiPlay_l0 w c (d ^ w) (allC w d) [] (all_good w d hw1 hw hd hc) (by rw [allC_length]; exact Nat.le_refl _) hp (by simp; exact hp)
  rw [List.nil_append] at this
  exact this
theorem implPlay_ev (w d : Nat) (hw1 : 1 ≤ w) (hw : w ≤ 6) (hd : 2 ≤ d ∧ d ≤ 10) {c : ByteArray} (hc : c ∈ allC w d) : Ev (fun K => impl_Lock_play.f K w d c) (capV [] (playT w d c)) := by
  have hp := pow_lock hw hd.1 hd.2
  unfold impl_Lock_play.f
  refine Ev.bind (fitting_ev w d hw1 hw hd [] ⟨by simp, by simp⟩) ?_
  rw [fitC_nil]
  exact playL_ev w c (d ^ w) 202 (allC w d) [] (all_good w d hw1 hw hd hc) (by rw [allC_length]; exact Nat.le_refl _) hp (by simp) (by simp)
/-- Each text of digits is a number's code. -/
theorem dcode_onto (d : Nat) (hd : 2 ≤ d) : ∀ (w : Nat) (f : Nat → Nat), (∀ i, i < w → f i < d) → ∃ n, n < d ^ w ∧ dcode d w n = (List.range w).map (fun i => ((f i : Nat) : Int))
  | 0, _, _ => ⟨0, by simp, rfl⟩
  | w + 1, f, h => by
    obtain ⟨n, hn, he⟩ := dcode_onto d hd w f (fun i hi => h i (by omega))
    have hf := h w (by omega)
    refine ⟨d * n + f w, ?_, ?_⟩
    · rw [Nat.pow_succ]
      have : d * n + d ≤ d ^ w * d := by
        have := Nat.mul_le_mul_left d (show n + 1 ≤ d ^ w from hn)
        rw [Nat.mul_add, Nat.mul_one, Nat.mul_comm d (d ^ w)] at this
        exact this
      omega
    · rw [dcode, Nat.mul_add_div (by omega), Nat.div_eq_of_lt hf, Nat.add_zero, he, Nat.mul_add_mod, Nat.mod_eq_of_lt hf, List.range_succ, List.map_append]
      rfl
theorem code_all (w d : Nat) (hw1 : 1 ≤ w) (hw : w ≤ 6) (hd : 2 ≤ d ∧ d ≤ 10) {c : ByteArray} (h : codeB w d c = true) : c ∈ allC w d := by
  obtain ⟨h1, h2⟩ := codeB_iff.mp h
  have hs : c.size = w := by omega
  obtain ⟨n, hn, he⟩ := dcode_onto d hd.1 w (fun i => (bt c (i : Int) - 48).toNat) (fun i hi => by have := h2 i (by omega); omega)
  have hc : c = codeT w d n := by
    refine bt_ext (by rw [codeT_size]; exact hs) (fun i hi => ?_)
    have hl : i < (dcode d w n).length := by rw [dcode_len]; omega
    unfold codeT
    rw [bt_txt _ (fun x hx => (dcode_digL d hd w n hw).2 x hx) i hl]
    have hb := h2 i hi
    have : (dcode d w n)[i] = (((bt c (i : Int) - 48).toNat : Nat) : Int) := by
      simp only [he, List.getElem_map, List.getElem_range]
    rw [this]
    omega
  rw [hc]
  exact List.mem_map.mpr ⟨n, List.mem_range.mpr hn, rfl⟩
end Go.Proofs.YtcpnmiempaofdaaGreat.Pure
