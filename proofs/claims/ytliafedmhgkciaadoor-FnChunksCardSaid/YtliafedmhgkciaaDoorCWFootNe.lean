/- Words for the walks: those of the print's that this claim uses. -/
import Derived.Test.YtliafedmhgkciaaDoorCWN
namespace Go.Proofs.YtliafedmhgkciaaDoorW.PrintWords
open Go.RowKit
namespace Kd
section
variable {α : Type} {d : Kd α} {W : World} {g n : Nat} {S ok : Nat → Prop} {A : Option Addr} {ad : Addr} {xs : List α}
end
end Kd
end Go.Proofs.YtliafedmhgkciaaDoorW.PrintWords
