/- Words for the walks: those of the print's that this claim uses. -/
import Derived.Test.YtoipfgpggcnkmaaCWInv
import Derived.Test.YtoipfgpggcnkmaaCWFootNe
namespace Go.Proofs.YtoipfgpggcnkmaaW.PrintWords
open Go.RowKit
end Go.Proofs.YtoipfgpggcnkmaaW.PrintWords
namespace Go.Proofs.YtoipfgpggcnkmaaW.PrintLast
section
variable {ops : Array Oper} {a : Act} {o og : Oper} {g : Nat} {t : Tmp} {u : Bool}
end
end Go.Proofs.YtoipfgpggcnkmaaW.PrintLast
