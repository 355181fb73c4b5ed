/- Chapter 5: the whole orders of the locks of at most nine codes, as the kernel reckons them. -/
import Derived.Test.YthpmpkmdjpaemaaGreatPx0
import Derived.Test.YthpmpkmdjpaemaaGreatPx15
import Derived.Test.YthpmpkmdjpaemaaGreatPx19
import Derived.Test.YthpmpkmdjpaemaaGreatOrdD
namespace Go.Proofs.YthpmpkmdjpaemaaGreat.Pure
open Go.RowKit Go.Proofs.YthpmpkmdjpaemaaGreat.P Go.Proofs.YthpmpkmdjpaemaaGreatW.PrintWords Go.Proofs.YthpmpkmdjpaemaaGreatW.PrintLast Go.Proofs.YthpmpkmdjpaemaaGreatW.PrintMore
set_option linter.unusedVariables false

/-- What both searches find in a lock: the first order, how many there are, how many are closed. -/
structure LockVal (a b : Int) (z : ByteArray) (F : List ByteArray) (c e : Int) : Prop where
  wholes : impl_Lock_wholes.f 100 a b = some (F, c, e)
  search : spec_orSearch.f 100 a b [z] = some (F, c, e)
  zero : codeT a.toNat b.toNat 0 = z
  whole : wholeB a.toNat b.toNat F = true
  first : rdOf ByteArray.empty F 0 = z
  some : 1 ≤ c ∧ 1 ≤ e ∧ e ≤ c
def first12 : List ByteArray := [⟨#[48]⟩, ⟨#[49]⟩]
set_option maxRecDepth 100000 in
theorem lock12 : LockVal 1 2 ⟨#[48]⟩ first12 1 1 := ⟨by decide +kernel, by decide +kernel, by decide +kernel, by decide +kernel, by decide +kernel, by decide⟩
def first13 : List ByteArray := [⟨#[48]⟩, ⟨#[49]⟩, ⟨#[50]⟩]
set_option maxRecDepth 100000 in
theorem lock13 : LockVal 1 3 ⟨#[48]⟩ first13 2 2 := ⟨by decide +kernel, by decide +kernel, by decide +kernel, by decide +kernel, by decide +kernel, by decide⟩
def first14 : List ByteArray := [⟨#[48]⟩, ⟨#[49]⟩, ⟨#[50]⟩, ⟨#[51]⟩]
set_option maxRecDepth 100000 in
theorem lock14 : LockVal 1 4 ⟨#[48]⟩ first14 2 2 := ⟨by decide +kernel, by decide +kernel, by decide +kernel, by decide +kernel, by decide +kernel, by decide⟩
def first15 : List ByteArray := [⟨#[48]⟩, ⟨#[49]⟩, ⟨#[50]⟩, ⟨#[51]⟩, ⟨#[52]⟩]
set_option maxRecDepth 100000 in
theorem lock15 : LockVal 1 5 ⟨#[48]⟩ first15 2 2 := ⟨by decide +kernel, by decide +kernel, by decide +kernel, by decide +kernel, by decide +kernel, by decide⟩
def first16 : List ByteArray := [⟨#[48]⟩, ⟨#[49]⟩, ⟨#[50]⟩, ⟨#[51]⟩, ⟨#[52]⟩, ⟨#[53]⟩]
set_option maxRecDepth 100000 in
theorem lock16 : LockVal 1 6 ⟨#[48]⟩ first16 2 2 := ⟨by decide +kernel, by decide +kernel, by decide +kernel, by decide +kernel, by decide +kernel, by decide⟩
def first17 : List ByteArray := [⟨#[48]⟩, ⟨#[49]⟩, ⟨#[50]⟩, ⟨#[51]⟩, ⟨#[52]⟩, ⟨#[53]⟩, ⟨#[54]⟩]
set_option maxRecDepth 100000 in
theorem lock17 : LockVal 1 7 ⟨#[48]⟩ first17 2 2 := ⟨by decide +kernel, by decide +kernel, by decide +kernel, by decide +kernel, by decide +kernel, by decide⟩
def first18 : List ByteArray := [⟨#[48]⟩, ⟨#[49]⟩, ⟨#[50]⟩, ⟨#[51]⟩, ⟨#[52]⟩, ⟨#[53]⟩, ⟨#[54]⟩, ⟨#[55]⟩]
set_option maxRecDepth 100000 in
theorem lock18 : LockVal 1 8 ⟨#[48]⟩ first18 2 2 := ⟨by decide +kernel, by decide +kernel, by decide +kernel, by decide +kernel, by decide +kernel, by decide⟩
def first19 : List ByteArray := [⟨#[48]⟩, ⟨#[49]⟩, ⟨#[50]⟩, ⟨#[51]⟩, ⟨#[52]⟩, ⟨#[53]⟩, ⟨#[54]⟩, ⟨#[55]⟩, ⟨#[56]⟩]
set_option maxRecDepth 100000 in
theorem lock19 : LockVal 1 9 ⟨#[48]⟩ first19 2 2 := ⟨by decide +kernel, by decide +kernel, by decide +kernel, by decide +kernel, by decide +kernel, by decide⟩
def first22 : List ByteArray := [⟨#[48, 48]⟩, ⟨#[48, 49]⟩, ⟨#[49, 49]⟩, ⟨#[49, 48]⟩]
set_option maxRecDepth 100000 in
theorem lock22 : LockVal 2 2 ⟨#[48, 48]⟩ first22 2 2 := ⟨by decide +kernel, by decide +kernel, by decide +kernel, by decide +kernel, by decide +kernel, by decide⟩
def first23 : List ByteArray := [⟨#[48, 48]⟩, ⟨#[48, 49]⟩, ⟨#[48, 50]⟩, ⟨#[49, 50]⟩, ⟨#[49, 48]⟩, ⟨#[49, 49]⟩, ⟨#[50, 49]⟩, ⟨#[50, 48]⟩, ⟨#[50, 50]⟩]
def first32 : List ByteArray := [⟨#[48, 48, 48]⟩, ⟨#[48, 48, 49]⟩, ⟨#[48, 49, 49]⟩, ⟨#[48, 49, 48]⟩, ⟨#[49, 49, 48]⟩, ⟨#[49, 48, 48]⟩, ⟨#[49, 48, 49]⟩, ⟨#[49, 49, 49]⟩]
set_option maxRecDepth 100000 in
theorem lock32 : LockVal 3 2 ⟨#[48, 48, 48]⟩ first32 18 12 := ⟨by decide +kernel, by decide +kernel, by decide +kernel, by decide +kernel, by decide +kernel, by decide⟩
end Go.Proofs.YthpmpkmdjpaemaaGreat.Pure
