/- Chapter 6: what a play tells: each guess is the first code that fits the hints before it, the guesses rise, the last one is the code. -/
import Derived.Test.YtcpnmiempaofdaaGreatCx0
import Derived.Test.YtcpnmiempaofdaaGreatHintP
import Derived.Test.YtcpnmiempaofdaaGreatHintZ
namespace Go.Proofs.YtcpnmiempaofdaaGreat.Pure
open Go.RowKit Go.Proofs.YtcpnmiempaofdaaGreat.C Go.Proofs.YtcpnmiempaofdaaGreatW.PrintWords Go.Proofs.YtcpnmiempaofdaaGreatW.PrintLast Go.Proofs.YtcpnmiempaofdaaGreatW.PrintMore
set_option linter.unusedVariables false

theorem fits_self_no {n : Nat} {c : ByteArray} {l : List ByteArray} (h : goodL n c l) (he : ¬ (rdOf ByteArray.empty l 0).toList = c.toList) :
    fitsB [hOf (rdOf ByteArray.empty l 0) c] (rdOf ByteArray.empty l 0) = false := by
  obtain ⟨h0, hg⟩ := good_head h
  generalize rdOf ByteArray.empty l 0 = g at he hg
  rw [fits_hOf]
  apply decide_eq_false
  intro hc
  have h1 := hc.1
  unfold hintV at h1
  simp only [plc_self] at h1
  have hs : g.size = c.size := by rw [(h.2 g hg).2, (h.2 c h.1).2]
  have := plc_full g c g.size h1.symm
  exact he (by rw [bt_ext hs this])
theorem head_bef {l : List ByteArray} (hs : l.Pairwise befT) {x : ByteArray} (hx : x ∈ l) (hne : x ≠ rdOf ByteArray.empty l 0) : befT (rdOf ByteArray.empty l 0) x := by
  cases l with
  | nil => exact absurd hx (by simp)
  | cons y ys =>
    have e : rdOf ByteArray.empty (y :: ys) 0 = y := by simp [rdOf]
    rw [e] at hne ⊢
    rcases List.mem_cons.mp hx with h | h
    · exact absurd h hne
    · exact (List.pairwise_cons.mp hs).1 x h
theorem fitsB_cons (h : S35) (t : List S35) (c : ByteArray) : fitsB (h :: t) c = (fitsB [h] c && fitsB t c) := by
  simp [fitsB]
theorem filter_cons (h : S35) (t : List S35) (l : List ByteArray) : l.filter (fitsB (h :: t)) = (l.filter (fitsB [h])).filter (fitsB t) := by
  rw [List.filter_filter]
  apply List.filter_congr
  intro x _
  rw [fitsB_cons, Bool.and_comm]
structure PlayOk (n : Nat) (c : ByteArray) (l : List ByteArray) (P : List S35) (i : Nat) (x : S35) : Prop where
  hint : x = hOf x.f0 c
  mem : x.f0 ∈ l
  head : rdOf ByteArray.empty (l.filter (fitsB (P.take i))) 0 = x.f0
  some : 0 < (l.filter (fitsB (P.take i))).length
theorem toL_inj {a b : ByteArray} (h : a.toList = b.toList) : a = b := by
  rw [Lib.toList_data, Lib.toList_data] at h
  apply ByteArray.ext
  exact Array.toList_inj.mp h
theorem playP_ok (n : Nat) (c : ByteArray) : ∀ (m : Nat) (l : List ByteArray), goodL n c l → l.length ≤ m → ∀ (i : Nat) (x : S35), (playP c m l)[i]? = some x → PlayOk n c l (playP c m l) i x
  | 0, l, h, hl, _, _, _ => by have := (good_head h).1; omega
  | m + 1, l, h, hl, i, x, hx => by
    obtain ⟨h0, hg⟩ := good_head h
    cases i with
    | zero =>
      have e : x = hOf (rdOf ByteArray.empty l 0) c := by
        rw [playP] at hx
        simpa using hx.symm
      have e0 : x.f0 = rdOf ByteArray.empty l 0 := by rw [e]; rfl
      have ef : l.filter (fitsB []) = l := List.filter_eq_self.mpr (fun _ _ => rfl)
      refine ⟨by rw [e0]; exact e, by rw [e0]; exact hg, ?_, ?_⟩
      · rw [List.take_zero, ef, e0]
      · rw [List.take_zero, ef]; exact h0
    | succ i =>
      by_cases he : (rdOf ByteArray.empty l 0).toList = c.toList
      · rw [playP, if_pos he] at hx
        simp at hx
      · have hn := good_next h he
        have hx' : (playP c m (l.filter (fitsB [hOf (rdOf ByteArray.empty l 0) c])))[i]? = some x := by
          rw [playP, if_neg he] at hx
          simpa using hx
        obtain ⟨a1, a2, a3, a4⟩ := playP_ok n c m _ hn.1 (by omega) i x hx'
        have et : (playP c (m + 1) l).take (i + 1) = hOf (rdOf ByteArray.empty l 0) c :: (playP c m (l.filter (fitsB [hOf (rdOf ByteArray.empty l 0) c]))).take i := by
          rw [playP, if_neg he, List.take_succ_cons]
        refine ⟨a1, (List.mem_filter.mp a2).1, ?_, ?_⟩
        · rw [et, filter_cons]; exact a3
        · rw [et, filter_cons]; exact a4
theorem playP_rise (n : Nat) (c : ByteArray) : ∀ (m : Nat) (l : List ByteArray), goodL n c l → l.length ≤ m → l.Pairwise befT → ∀ (i : Nat) (x y : S35), (playP c m l)[i]? = some x → (playP c m l)[i + 1]? = some y → befT x.f0 y.f0
  | 0, l, h, hl, _, _, _, _, _, _ => by have := (good_head h).1; omega
  | m + 1, l, h, hl, hs, i, x, y, hx, hy => by
    by_cases he : (rdOf ByteArray.empty l 0).toList = c.toList
    · rw [playP, if_pos he] at hy
      simp at hy
    · have hn := good_next h he
      have hs' := hs.filter (fitsB [hOf (rdOf ByteArray.empty l 0) c])
      rw [playP, if_neg he] at hx hy
      simp only [List.getElem?_cons_succ] at hy
      cases i with
      | zero =>
        have e0 : x.f0 = rdOf ByteArray.empty l 0 := by
          simp only [List.getElem?_cons_zero, Option.some.injEq] at hx
          rw [← hx]
          rfl
        have hy1 := playP_ok n c m _ hn.1 (by omega) 0 y hy
        have hm := List.mem_filter.mp hy1.mem
        rw [e0]
        refine head_bef hs hm.1 (fun e => ?_)
        have := hm.2
        rw [e, fits_self_no h he] at this
        exact absurd this (by decide)
      | succ i =>
        simp only [List.getElem?_cons_succ] at hx
        exact playP_rise n c m _ hn.1 (by omega) hs' i x y hx hy
theorem playP_last (n : Nat) (c : ByteArray) : ∀ (m : Nat) (l : List ByteArray), goodL n c l → l.length ≤ m → ∃ ys, playP c m l = ys ++ [hOf c c]
  | 0, l, h, hl => by have := (good_head h).1; omega
  | m + 1, l, h, hl => by
    rw [playP]
    by_cases he : (rdOf ByteArray.empty l 0).toList = c.toList
    · rw [if_pos he, toL_inj he]
      exact ⟨[], rfl⟩
    · rw [if_neg he]
      have hn := good_next h he
      obtain ⟨ys, hy⟩ := playP_last n c m _ hn.1 (by omega)
      rw [hy]
      exact ⟨hOf (rdOf ByteArray.empty l 0) c :: ys, rfl⟩
end Go.Proofs.YtcpnmiempaofdaaGreat.Pure
