/- Chapter 5: the whole orders of the lock of two wheels of three digits, the reference's. -/
import Derived.Test.YthpmpkmdjpaemaaGreatPx0
import Derived.Test.YthpmpkmdjpaemaaGreatPx19
import Derived.Test.YthpmpkmdjpaemaaGreatOrdV
namespace Go.Proofs.YthpmpkmdjpaemaaGreat.Pure
open Go.RowKit Go.Proofs.YthpmpkmdjpaemaaGreat.P Go.Proofs.YthpmpkmdjpaemaaGreatW.PrintWords Go.Proofs.YthpmpkmdjpaemaaGreatW.PrintLast Go.Proofs.YthpmpkmdjpaemaaGreatW.PrintMore
set_option linter.unusedVariables false

set_option maxRecDepth 100000 in
theorem search23 : spec_orSearch.f 100 2 3 [⟨#[48, 48]⟩] = some (first23, 168, 96) := by decide +kernel
end Go.Proofs.YthpmpkmdjpaemaaGreat.Pure
