/- Words for the walks: those of the print's that this claim uses. -/
import Derived.Test.YtliafedmhgkciaaDoorCWInv
import Derived.Test.YtliafedmhgkciaaDoorCWFootNe
namespace Go.Proofs.YtliafedmhgkciaaDoorW.PrintWords
open Go.RowKit
end Go.Proofs.YtliafedmhgkciaaDoorW.PrintWords
namespace Go.Proofs.YtliafedmhgkciaaDoorW.PrintLast
section
variable {ops : Array Oper} {a : Act} {o og : Oper} {g : Nat} {t : Tmp} {u : Bool}
end
end Go.Proofs.YtliafedmhgkciaaDoorW.PrintLast
