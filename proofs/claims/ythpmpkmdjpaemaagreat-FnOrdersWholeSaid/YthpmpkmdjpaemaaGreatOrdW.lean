/- Chapter 5: the whole orders of the lock of two wheels of three digits, the program's: four searches behind the first turn, each reckoned by the kernel. -/
import Derived.Test.YthpmpkmdjpaemaaGreatPx0
import Derived.Test.YthpmpkmdjpaemaaGreatPx13
import Derived.Test.YthpmpkmdjpaemaaGreatPx15
import Derived.Test.YthpmpkmdjpaemaaGreatPx9
import Derived.Test.YthpmpkmdjpaemaaGreatOrdV
namespace Go.Proofs.YthpmpkmdjpaemaaGreat.Pure
open Go.RowKit Go.Proofs.YthpmpkmdjpaemaaGreat.P Go.Proofs.YthpmpkmdjpaemaaGreatW.PrintWords Go.Proofs.YthpmpkmdjpaemaaGreatW.PrintLast Go.Proofs.YthpmpkmdjpaemaaGreatW.PrintMore
set_option linter.unusedVariables false

theorem wh_loop (k : Nat) (a b : Int) (d : Nat) (way : List ByteArray) (s : ByteArray) (ns : List ByteArray) (st st' : List ByteArray × Int × Int) (hc : slices_Contains_string_string.f k way s = some false) (hw : whWalk k a b d (way ++ [s]) st = some st') :
    whLoop (fun s => slices_Contains_string_string.f k way s) (fun s st' => whWalk k a b d (way ++ [s]) st') (s :: ns) st = whLoop (fun s => slices_Contains_string_string.f k way s) (fun s st' => whWalk k a b d (way ++ [s]) st') ns st' := by
  rw [whLoop, hc]
  simp only [Option.bind_some]
  rw [if_neg (by decide), hw]
  rfl
set_option maxRecDepth 100000 in
theorem wh1 : whWalk 100 2 3 19 ([⟨#[48, 48]⟩] ++ [⟨#[48, 49]⟩]) ([], 0, 0) = some (first23, 42, 24) := by decide +kernel
set_option maxRecDepth 100000 in
theorem wh2 : whWalk 100 2 3 19 ([⟨#[48, 48]⟩] ++ [⟨#[48, 50]⟩]) (first23, 42, 24) = some (first23, 84, 48) := by decide +kernel
set_option maxRecDepth 100000 in
theorem wh3 : whWalk 100 2 3 19 ([⟨#[48, 48]⟩] ++ [⟨#[49, 48]⟩]) (first23, 84, 48) = some (first23, 126, 72) := by decide +kernel
set_option maxRecDepth 100000 in
theorem wh4 : whWalk 100 2 3 19 ([⟨#[48, 48]⟩] ++ [⟨#[50, 48]⟩]) (first23, 126, 72) = some (first23, 168, 96) := by decide +kernel
set_option maxRecDepth 100000 in
theorem wholes23 : impl_Lock_wholes.f 100 2 3 = some (first23, 168, 96) := by
  have hz : impl_Lock_code.f 100 2 3 0 = some ⟨#[48, 48]⟩ := by decide +kernel
  have hn : impl_Lock_count.f 100 2 3 = some 9 := by decide +kernel
  have hx : impl_Lock_next.f 100 2 3 (whLast [⟨#[48, 48]⟩]) = some [⟨#[48, 49]⟩, ⟨#[48, 50]⟩, ⟨#[49, 48]⟩, ⟨#[50, 48]⟩] := by decide +kernel
  unfold impl_Lock_wholes.f
  rw [hz, Option.bind_some, whWalk, if_neg (by decide), hn, Option.bind_some, if_neg (by decide), hx, Option.bind_some, if_pos (by decide)]
  rw [wh_loop 100 2 3 19 [⟨#[48, 48]⟩] ⟨#[48, 49]⟩ _ ([], 0, 0) _ (by decide +kernel) wh1, wh_loop 100 2 3 19 [⟨#[48, 48]⟩] ⟨#[48, 50]⟩ _ _ _ (by decide +kernel) wh2,
    wh_loop 100 2 3 19 [⟨#[48, 48]⟩] ⟨#[49, 48]⟩ _ _ _ (by decide +kernel) wh3, wh_loop 100 2 3 19 [⟨#[48, 48]⟩] ⟨#[50, 48]⟩ _ _ _ (by decide +kernel) wh4, whLoop]
end Go.Proofs.YthpmpkmdjpaemaaGreat.Pure
