/- Words for the walks: those of the print's that this claim uses. -/
import Derived.Test.YtmificjllfhngaaCWLast
import Derived.Test.YtmificjllfhngaaCWWords
namespace Go.Proofs.YtmificjllfhngaaW.PrintLast
open Go.Proofs.YtmificjllfhngaaW.PrintWords (Aside0)
section
variable {md : Region.Mode} {ops : Array Oper} {T : Bool × List (List Nat × List Nat)} {l l' li lj lk : Array Bool} {ds : List Nat} {i j k : Nat}
end
end Go.Proofs.YtmificjllfhngaaW.PrintLast
