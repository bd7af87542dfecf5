/- Words for the walks: those of the print's that this claim uses. -/
import Derived.Test.YtidimlopdgcklaaCWInv
import Derived.Test.YtidimlopdgcklaaCWFootNe
namespace Go.Proofs.YtidimlopdgcklaaW.PrintWords
open Go.RowKit
end Go.Proofs.YtidimlopdgcklaaW.PrintWords
namespace Go.Proofs.YtidimlopdgcklaaW.PrintLast
section
variable {ops : Array Oper} {a : Act} {o og : Oper} {g : Nat} {t : Tmp} {u : Bool}
end
end Go.Proofs.YtidimlopdgcklaaW.PrintLast
