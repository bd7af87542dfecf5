/- Words for the walks: those of the print's that this claim uses. -/
import Derived.Test.YtkpeihdlmjdejaaCWInv
import Derived.Test.YtkpeihdlmjdejaaCWFootNe
namespace Go.Proofs.YtkpeihdlmjdejaaW.PrintWords
open Go.RowKit
end Go.Proofs.YtkpeihdlmjdejaaW.PrintWords
namespace Go.Proofs.YtkpeihdlmjdejaaW.PrintLast
section
variable {ops : Array Oper} {a : Act} {o og : Oper} {g : Nat} {t : Tmp} {u : Bool}
end
end Go.Proofs.YtkpeihdlmjdejaaW.PrintLast
