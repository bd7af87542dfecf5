/- Words for the walks: those of the print's that this claim uses. -/
import Derived.Test.YtoeobfbhckledaaCWInv
import Derived.Test.YtoeobfbhckledaaCWFootNe
namespace Go.Proofs.YtoeobfbhckledaaW.PrintWords
open Go.RowKit
end Go.Proofs.YtoeobfbhckledaaW.PrintWords
namespace Go.Proofs.YtoeobfbhckledaaW.PrintLast
section
variable {ops : Array Oper} {a : Act} {o og : Oper} {g : Nat} {t : Tmp} {u : Bool}
end
end Go.Proofs.YtoeobfbhckledaaW.PrintLast
