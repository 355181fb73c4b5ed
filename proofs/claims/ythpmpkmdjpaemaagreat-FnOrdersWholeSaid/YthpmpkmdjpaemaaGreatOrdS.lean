/- Chapter 5: the whole orders of the lock of two wheels of three digits, the reference's: four searches behind the first turn, each reckoned by the kernel. -/
import Derived.Test.YthpmpkmdjpaemaaGreatPx0
import Derived.Test.YthpmpkmdjpaemaaGreatPx16
import Derived.Test.YthpmpkmdjpaemaaGreatPx17
import Derived.Test.YthpmpkmdjpaemaaGreatPx18
import Derived.Test.YthpmpkmdjpaemaaGreatPx19
import Derived.Test.YthpmpkmdjpaemaaGreatPx2
import Derived.Test.YthpmpkmdjpaemaaGreatOrdV
namespace Go.Proofs.YthpmpkmdjpaemaaGreat.Pure
open Go.RowKit Go.Proofs.YthpmpkmdjpaemaaGreat.P Go.Proofs.YthpmpkmdjpaemaaGreatW.PrintWords Go.Proofs.YthpmpkmdjpaemaaGreatW.PrintLast Go.Proofs.YthpmpkmdjpaemaaGreatW.PrintMore
set_option linter.unusedVariables false

theorem os_step (k : Nat) (x1 x8 : List ByteArray) (x9 x10 : Int) (l : List ByteArray) (i : Int) (a b : Int) (s : ByteArray) (F : List ByteArray) (n c : Int)
    (h1 : i < (l.length : Int)) (h0 : 0 ≤ i) (hs : rdOf ByteArray.empty l i = s) (hh : spec_l1HasS.f k x1 s = some false) (hl : x1.length < 1000) (hf : spec_orSearch.f k a b (x1 ++ [s]) = some (F, n, c)) :
    spec_orSearch.l0 (k + 1) x1 x8 x9 x10 l (l.length : Int) i a b = spec_orSearch.l0 k x1 (if x9 = 0 then F else x8) (wrap64 (x9 + n)) (wrap64 (x10 + c)) l (l.length : Int) (wrap64 (i + 1)) a b := by
  have ho : spec_l1OwnS.f x1 = some x1 := by
    unfold spec_l1OwnS.f
    simp only [Option.bind_some, List.length_nil, List.nil_append]
    rw [if_pos (by omega)]
  rw [spec_orSearch.l0, if_pos h1, if_pos h0, if_pos h1, hs, hh]
  simp only [Option.bind_some]
  rw [if_neg (by decide), ho]
  simp only [Option.bind_some]
  rw [if_pos (by simp only [List.length_cons, List.length_nil]; omega), hf]
  simp only [Option.bind_some]
  by_cases h : x9 = 0
  · rw [if_pos h, if_pos h]
  · rw [if_neg h, if_neg h]
def turns23 : List ByteArray := [⟨#[48, 49]⟩, ⟨#[48, 50]⟩, ⟨#[49, 48]⟩, ⟨#[50, 48]⟩]
set_option maxRecDepth 100000 in
theorem os1 : spec_orSearch.f 98 2 3 ([⟨#[48, 48]⟩] ++ [⟨#[48, 49]⟩]) = some (first23, 42, 24) := by decide +kernel
set_option maxRecDepth 100000 in
theorem os2 : ((spec_orSearch.f 97 2 3 ([⟨#[48, 48]⟩] ++ [⟨#[48, 50]⟩])).map fun r => r.2) = some (42, 24) := by decide +kernel
set_option maxRecDepth 100000 in
theorem os3 : ((spec_orSearch.f 96 2 3 ([⟨#[48, 48]⟩] ++ [⟨#[49, 48]⟩])).map fun r => r.2) = some (42, 24) := by decide +kernel
set_option maxRecDepth 100000 in
theorem os4 : ((spec_orSearch.f 95 2 3 ([⟨#[48, 48]⟩] ++ [⟨#[50, 48]⟩])).map fun r => r.2) = some (42, 24) := by decide +kernel
theorem os_some {x : Option (List ByteArray × Int × Int)} {n c : Int} (h : (x.map fun r => r.2) = some (n, c)) : ∃ F, x = some (F, n, c) := by
  obtain ⟨⟨F, r⟩, h1, h2⟩ := Option.map_eq_some_iff.mp h
  exact ⟨F, by rw [h1, ← h2]⟩
set_option maxRecDepth 100000 in
theorem search23 : spec_orSearch.f 100 2 3 [⟨#[48, 48]⟩] = some (first23, 168, 96) := by
  have hn : spec_whCount.f 99 2 3 = some 9 := by decide +kernel
  have hx : spec_NextCodes.f 99 2 3 (rdOf ByteArray.empty [⟨#[48, 48]⟩] (wrap64 ((([⟨#[48, 48]⟩] : List ByteArray).length : Int) - 1))) = some (turns23, true) := by decide +kernel
  obtain ⟨F2, h2⟩ := os_some os2
  obtain ⟨F3, h3⟩ := os_some os3
  obtain ⟨F4, h4⟩ := os_some os4
  have wr : ∀ x y z : Int, 0 ≤ x ∧ x ≤ 1000 → 0 ≤ y ∧ y ≤ 1000 → x + y = z → wrap64 (x + y) = z := fun x y z hx hy h => by rw [w64 (by omega) (by omega), h]
  show spec_orSearch.f (99 + 1) 2 3 [⟨#[48, 48]⟩] = _
  rw [spec_orSearch.f, hn, Option.bind_some, if_neg (by decide), if_pos (by decide +kernel), if_pos (by decide +kernel), hx, Option.bind_some]
  show spec_orSearch.l0 (98 + 1) [⟨#[48, 48]⟩] [] 0 0 turns23 (turns23.length : Int) 0 2 3 = _
  rw [os_step 98 _ _ _ _ _ _ _ _ ⟨#[48, 49]⟩ _ _ _ (by decide) (by decide) rfl (by decide +kernel) (by decide) os1, if_pos rfl, wr 0 42 42 (by omega) (by omega) rfl, wr 0 24 24 (by omega) (by omega) rfl, wr 0 1 1 (by omega) (by omega) rfl]
  show spec_orSearch.l0 (97 + 1) [⟨#[48, 48]⟩] first23 42 24 turns23 (turns23.length : Int) 1 2 3 = _
  rw [os_step 97 _ _ _ _ _ _ _ _ ⟨#[48, 50]⟩ _ _ _ (by decide) (by decide) rfl (by decide +kernel) (by decide) h2, if_neg (by decide), wr 42 42 84 (by omega) (by omega) rfl, wr 24 24 48 (by omega) (by omega) rfl, wr 1 1 2 (by omega) (by omega) rfl]
  show spec_orSearch.l0 (96 + 1) [⟨#[48, 48]⟩] first23 84 48 turns23 (turns23.length : Int) 2 2 3 = _
  rw [os_step 96 _ _ _ _ _ _ _ _ ⟨#[49, 48]⟩ _ _ _ (by decide) (by decide) rfl (by decide +kernel) (by decide) h3, if_neg (by decide), wr 84 42 126 (by omega) (by omega) rfl, wr 48 24 72 (by omega) (by omega) rfl, wr 2 1 3 (by omega) (by omega) rfl]
  show spec_orSearch.l0 (95 + 1) [⟨#[48, 48]⟩] first23 126 72 turns23 (turns23.length : Int) 3 2 3 = _
  rw [os_step 95 _ _ _ _ _ _ _ _ ⟨#[50, 48]⟩ _ _ _ (by decide) (by decide) rfl (by decide +kernel) (by decide) h4, if_neg (by decide), wr 126 42 168 (by omega) (by omega) rfl, wr 72 24 96 (by omega) (by omega) rfl, wr 3 1 4 (by omega) (by omega) rfl]
  show spec_orSearch.l0 (94 + 1) [⟨#[48, 48]⟩] first23 168 96 turns23 (turns23.length : Int) 4 2 3 = _
  rw [spec_orSearch.l0, if_neg (by decide)]
end Go.Proofs.YthpmpkmdjpaemaaGreat.Pure
