/- Words for the walks: those of the print's that this claim uses. -/
import Derived.Test.YtmificjllfhngaaCWWords
import Derived.Laws.StructEq
namespace Go.Proofs.YtmificjllfhngaaW.PrintWords
open Go.RowKit
section
variable {P : Program} {d : Nat} {xs ys : Array Value} {f : Field} {fs : List Field} {a b : Value} {r s : Bool} {w : World}
end
end Go.Proofs.YtmificjllfhngaaW.PrintWords
