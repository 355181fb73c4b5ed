/- Chapter 5: the whole orders of the lock of two wheels of three digits, the program's. -/
import Derived.Test.YthpmpkmdjpaemaaGreatPx0
import Derived.Test.YthpmpkmdjpaemaaGreatPx15
import Derived.Test.YthpmpkmdjpaemaaGreatOrdV
namespace Go.Proofs.YthpmpkmdjpaemaaGreat.Pure
open Go.RowKit Go.Proofs.YthpmpkmdjpaemaaGreat.P Go.Proofs.YthpmpkmdjpaemaaGreatW.PrintWords Go.Proofs.YthpmpkmdjpaemaaGreatW.PrintLast Go.Proofs.YthpmpkmdjpaemaaGreatW.PrintMore
set_option linter.unusedVariables false

set_option maxRecDepth 100000 in
theorem wholes23 : impl_Lock_wholes.f 100 2 3 = some (first23, 168, 96) := by decide +kernel
end Go.Proofs.YthpmpkmdjpaemaaGreat.Pure
