/- Words for the walks: those of the print's that this claim uses. -/
import Derived.Test.YthjbgnmnemblhaaCWInv
import Derived.Test.YthjbgnmnemblhaaCWFootNe
namespace Go.Proofs.YthjbgnmnemblhaaW.PrintWords
open Go.RowKit
end Go.Proofs.YthjbgnmnemblhaaW.PrintWords
namespace Go.Proofs.YthjbgnmnemblhaaW.PrintLast
section
variable {ops : Array Oper} {a : Act} {o og : Oper} {g : Nat} {t : Tmp} {u : Bool}
end
end Go.Proofs.YthjbgnmnemblhaaW.PrintLast
