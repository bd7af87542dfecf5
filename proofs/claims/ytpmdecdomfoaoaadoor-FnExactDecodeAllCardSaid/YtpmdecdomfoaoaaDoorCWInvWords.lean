/- Words for the walks: those of the print's that this claim uses. -/
import Derived.Test.YtpmdecdomfoaoaaDoorCWInv
import Derived.Test.YtpmdecdomfoaoaaDoorCWFootNe
namespace Go.Proofs.YtpmdecdomfoaoaaDoorW.PrintWords
open Go.RowKit
end Go.Proofs.YtpmdecdomfoaoaaDoorW.PrintWords
namespace Go.Proofs.YtpmdecdomfoaoaaDoorW.PrintLast
section
variable {ops : Array Oper} {a : Act} {o og : Oper} {g : Nat} {t : Tmp} {u : Bool}
end
end Go.Proofs.YtpmdecdomfoaoaaDoorW.PrintLast
