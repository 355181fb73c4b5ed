/- Texts of digits: what both sides come to. -/
import Derived.Test.YtdkgclkkofmgkaaQx0
import Derived.Test.YtdkgclkkofmgkaaQx5
import Derived.Test.YtdkgclkkofmgkaaKit
namespace Go.Proofs.Ytdkgclkkofmgkaa.Pure
open Go.RowKit Go.Proofs.Ytdkgclkkofmgkaa.Q Go.Proofs.YtdkgclkkofmgkaaW.PrintWords Go.Proofs.YtdkgclkkofmgkaaW.PrintLast Go.Proofs.YtdkgclkkofmgkaaW.PrintMore
set_option linter.unusedVariables false

def txt (ds : List Int) : ByteArray := strOfNums (ds.map (fun x => 48 + x))
theorem strOf_app (xs ys : List Int) : strOfNums (xs ++ ys) = strOfNums xs ++ strOfNums ys := by
  unfold strOfNums
  apply ByteArray.ext
  simp
theorem txt_snoc (ds : List Int) (x : Int) : txt (ds ++ [x]) = txt ds ++ strOfNums [48 + x] := by
  unfold txt
  rw [List.map_append, strOf_app]
  rfl
theorem txt_size (ds : List Int) : (txt ds).size = ds.length := by
  unfold txt
  rw [strOfNums_size, List.length_map]
def digL (ds : List Int) : Prop := ds.length ≤ 10 ∧ ∀ x ∈ ds, 0 ≤ x ∧ x ≤ 9
theorem implText_l0 (ds : List Int) (hd : digL ds) : ∀ (d i : Nat), i + d = ds.length → Ev (fun K => impl_text.l0 K ((ds.take i).map (fun x => 48 + x)) ds (ds.length : Int) i) (txt ds) := by
  intro d
  induction d with
  | zero =>
    intro i hi
    refine Ev.step (fun k => by rw [impl_text.l0]) ?_
    refine Ev.neg (by omega) (Ev.val (Ev.now _) ?_)
    rw [List.take_of_length_le (by omega)]
    rfl
  | succ d ih =>
    intro i hi
    have h1 : i < ds.length := by omega
    have hx := hd.2 _ (List.getElem_mem h1)
    have hl := hd.1
    refine Ev.step (fun k => by rw [impl_text.l0]) ?_
    refine Ev.pos (by omega) (Ev.pos (by omega) (Ev.pos (by omega) (Ev.pos (by simp; omega) ?_)))
    rw [rd_nat h1, w64 (x := 48 + ds[i]) (by omega) (by omega), w64n (by omega), show (48 + ds[i]) % 256 = 48 + ds[i] by omega]
    have := ih (i + 1) (by omega)
    rw [List.take_succ_eq_append_getElem h1, List.map_append] at this
    exact this
theorem implText_ev (ds : List Int) (hd : digL ds) : Ev (fun K => impl_text.f K ds) (txt ds) := by
  unfold impl_text.f
  have := implText_l0 ds hd ds.length 0 (by omega)
  simpa using this
theorem l1Num_ev (x : Int) (hx : 0 ≤ x ∧ x ≤ 9) : Ev (fun K => spec_l1Num.f K x) (strOfNums [48 + x]) := by
  refine Ev.step (fun k => by rw [spec_l1Num.f]) ?_
  refine Ev.pos (by omega) (Ev.val (Ev.now _) ?_)
  rw [w64 (by omega) (by omega), show (48 + x) % 256 = 48 + x by omega]
theorem bt_txt (ds : List Int) (hd : ∀ x ∈ ds, 0 ≤ x ∧ x ≤ 9) (i : Nat) (h : i < ds.length) : bt (txt ds) (i : Int) = 48 + ds[i] := by
  have hs : i < (txt ds).size := by rw [txt_size]; exact h
  have e : bt (txt ds) (i : Int) = (((txt ds)[i]'hs).toNat : Int) := by unfold bt; simp [hs]
  have hx := hd _ (List.getElem_mem h)
  have e2 : ((txt ds)[i]'hs) = UInt8.ofNat (48 + ds[i]).toNat := by
    show (txt ds).data[i] = _
    simp [txt, strOfNums]
  rw [e, e2]
  have : (48 + ds[i]).toNat < 256 := by omega
  simp only [UInt8.toNat_ofNat']
  omega
end Go.Proofs.Ytdkgclkkofmgkaa.Pure
