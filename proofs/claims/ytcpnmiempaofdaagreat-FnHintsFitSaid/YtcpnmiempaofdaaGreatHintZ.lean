import Derived.Test.YtcpnmiempaofdaaGreatHintD
namespace Go.Proofs.YtcpnmiempaofdaaGreat.Pure
open Go.RowKit Go.Proofs.YtcpnmiempaofdaaGreat.G Go.Proofs.YtcpnmiempaofdaaGreatW.PrintWords Go.Proofs.YtcpnmiempaofdaaGreatW.PrintLast Go.Proofs.YtcpnmiempaofdaaGreatW.PrintMore
set_option linter.unusedVariables false
theorem bl_app (a b : List UInt8) : ∀ x y : List UInt8, x.length = y.length → Op.bytesLess x y = true → Op.bytesLess (x ++ a) (y ++ b) = true
 | [], [], _, h => by simp [Op.bytesLess] at h
 | [], _ :: _, h, _ => by simp at h
 | _ :: _, [], h, _ => by simp at h
 | p :: x, q :: y, hl, h => by
  simp only [List.cons_append, Op.bytesLess, Bool.or_eq_true, Bool.and_eq_true] at h ⊢
  rcases h with h | ⟨h1, h2⟩
  ·exact .inl h
  ·exact .inr ⟨h1, bl_app a b x y (by simpa using hl) h2⟩
theorem bl_same (a b : List UInt8) : ∀ x : List UInt8, Op.bytesLess a b = true → Op.bytesLess (x ++ a) (x ++ b) = true
 | [], h => h
 | p :: x, h => by
  simp only [List.cons_append, Op.bytesLess, Bool.or_eq_true, Bool.and_eq_true]
  exact .inr ⟨by simp, bl_same a b x h⟩
def bytL (ds : List Int) : List UInt8 := ds.map (fun x => UInt8.ofNat (48 + x).toNat)
theorem txt_list (ds : List Int) : (txt ds).toList = bytL ds := by
 unfold txt strOfNums bytL
 simp [Lib.toList_data, List.map_map, Function.comp_def]
theorem bl_dcode (d : Nat) (hd : 2 ≤ d ∧ d ≤ 10) : ∀ (w n m : Nat), n < m → m < d ^ w → Op.bytesLess (bytL (dcode d w n)) (bytL (dcode d w m)) = true
 | 0, n, m, h1, h2 => by simp at h2; omega
 | w + 1, n, m, h1, h2 => by
  rw [dcode, dcode]
  unfold bytL
  rw [List.map_append, List.map_append]
  have hm : m / d < d ^ w := by
   rw [Nat.div_lt_iff_lt_mul (by omega)]
   rw [Nat.pow_succ] at h2
   exact h2
  by_cases h : n / d < m / d
  ·exact bl_app _ _ _ _ (by simp [dcode_len]) (bl_dcode d hd w (n / d) (m / d) h hm)
  ·have h3 : n / d ≤ m / d := Nat.div_le_div_right (by omega)
   have e : n / d = m / d := by omega
   rw [e]
   apply bl_same
   have ha := Nat.div_add_mod n d
   have hb := Nat.div_add_mod m d
   rw [e] at ha
   have hla := Nat.mod_lt n (show 0 < d by omega)
   have hlb := Nat.mod_lt m (show 0 < d by omega)
   have hlt : n % d < m % d := by omega
   simp only [List.map_cons, List.map_nil, Op.bytesLess, Bool.or_eq_true, Bool.and_eq_true, decide_eq_true_eq]
   refine .inl ?_
   rw [UInt8.lt_iff_toNat_lt]
   simp only [UInt8.toNat_ofNat']
   omega
def befT (a b : ByteArray) : Prop := Op.bytesLess a.toList b.toList = true
theorem allC_sorted (w d : Nat) (hd : 2 ≤ d ∧ d ≤ 10) : (allC w d).Pairwise befT := by
 unfold allC
 rw [List.pairwise_map]
 have h : (List.range (d ^ w)).Pairwise (fun a b => a < b ∧ b < d ^ w) := by
  rw [List.pairwise_iff_getElem]
  intro i j hi hj hij
  simp at hi hj ⊢
  omega
 refine h.imp ?_
 intro a b hab
 show Op.bytesLess (codeT w d a).toList (codeT w d b).toList = true
 unfold codeT
 rw [txt_list, txt_list]
 exact bl_dcode d hd w a b hab.1 hab.2
theorem fitC_sorted (w d : Nat) (hd : 2 ≤ d ∧ d ≤ 10) (l : List S35) : (fitC w d l).Pairwise befT := (allC_sorted w d hd).filter _
end Go.Proofs.YtcpnmiempaofdaaGreat.Pure
