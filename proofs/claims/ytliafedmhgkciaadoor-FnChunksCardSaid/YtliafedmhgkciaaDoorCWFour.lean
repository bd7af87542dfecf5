/- Words for the walks: those of the print's that this claim uses. -/
import Derived.Test.YtliafedmhgkciaaDoorCWTab
namespace Go.Proofs.YtliafedmhgkciaaDoorW.PrintLast
section
variable {P : Program} {ops : Array Oper} {Q : Exit → Act → World → Prop} {md : Region.Mode} {S : World → Prop} {ds : List Nat} {T : Bool × List (List Nat × List Nat)}
end
end Go.Proofs.YtliafedmhgkciaaDoorW.PrintLast
