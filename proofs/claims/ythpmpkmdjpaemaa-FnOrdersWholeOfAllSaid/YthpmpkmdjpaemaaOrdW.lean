/- Chapter 5: the whole orders of the lock of two wheels of three digits, the program's. -/
import Derived.Test.YthpmpkmdjpaemaaOx0
import Derived.Test.YthpmpkmdjpaemaaOx12
import Derived.Test.YthpmpkmdjpaemaaOrdV
namespace Go.Proofs.Ythpmpkmdjpaemaa.Pure
open Go.RowKit Go.Proofs.Ythpmpkmdjpaemaa.O Go.Proofs.YthpmpkmdjpaemaaW.PrintWords Go.Proofs.YthpmpkmdjpaemaaW.PrintLast Go.Proofs.YthpmpkmdjpaemaaW.PrintMore
set_option linter.unusedVariables false

set_option maxRecDepth 100000 in
theorem wholes23 : impl_Lock_wholes.f 100 2 3 = some (first23, 168, 96) := by decide +kernel
end Go.Proofs.Ythpmpkmdjpaemaa.Pure
