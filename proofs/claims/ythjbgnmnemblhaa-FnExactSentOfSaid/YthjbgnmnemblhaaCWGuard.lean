/- Words for the walks: those of the print's that this claim uses. -/
import Derived.Test.YthjbgnmnemblhaaCWWords
namespace Go.Proofs.YthjbgnmnemblhaaW.PrintWords
open Go.RowKit
section
variable {P : Program} {ops : Array Oper} {rest : List Oper} {o : Oper} {a : Act} {Q : Exit → Act → World → Prop} {W : World}
end
end Go.Proofs.YthjbgnmnemblhaaW.PrintWords
