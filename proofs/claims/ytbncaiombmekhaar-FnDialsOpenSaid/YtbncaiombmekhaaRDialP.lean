/- The program's powers, and numbers of numbers. -/
import Derived.Test.YtbncaiombmekhaaRBx0
import Derived.Test.YtbncaiombmekhaaRDialA0
namespace Go.Proofs.YtbncaiombmekhaaR.Pure
open Go.RowKit Go.Proofs.YtbncaiombmekhaaR.B Go.Proofs.YtbncaiombmekhaaRW.PrintWords Go.Proofs.YtbncaiombmekhaaRW.PrintLast Go.Proofs.YtbncaiombmekhaaRW.PrintMore
set_option linter.unusedVariables false

theorem pow_le' {b : Nat} {i n : Nat} (hb : 1 ≤ b) (h : i ≤ n) : b ^ i ≤ b ^ n := Nat.pow_le_pow_right hb h

end Go.Proofs.YtbncaiombmekhaaR.Pure
