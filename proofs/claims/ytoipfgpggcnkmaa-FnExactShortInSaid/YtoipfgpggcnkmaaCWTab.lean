/- Words for the walks: those of the print's that this claim uses. -/
import Derived.Test.YtoipfgpggcnkmaaCWLast
import Derived.Test.YtoipfgpggcnkmaaCWWords
namespace Go.Proofs.YtoipfgpggcnkmaaW.PrintLast
open Go.Proofs.YtoipfgpggcnkmaaW.PrintWords (Aside0)
section
variable {md : Region.Mode} {ops : Array Oper} {T : Bool × List (List Nat × List Nat)} {l l' li lj lk : Array Bool} {ds : List Nat} {i j k : Nat}
end
end Go.Proofs.YtoipfgpggcnkmaaW.PrintLast
