/- Words for the walks: those of the print's that this claim uses. -/
import Derived.Test.YtmificjllfhngaaCWInv
import Derived.Test.YtmificjllfhngaaCWFootNe
namespace Go.Proofs.YtmificjllfhngaaW.PrintWords
open Go.RowKit
end Go.Proofs.YtmificjllfhngaaW.PrintWords
namespace Go.Proofs.YtmificjllfhngaaW.PrintLast
section
variable {ops : Array Oper} {a : Act} {o og : Oper} {g : Nat} {t : Tmp} {u : Bool}
end
end Go.Proofs.YtmificjllfhngaaW.PrintLast
