/- The pure statement of the law FnExactRuneCount. By a program of this session. -/
import Derived.Test.YtidimlopdgcklaaP4
namespace Go.Proofs.Ytidimlopdgcklaa.Pure
open Go.RowKit Go.Proofs.Ytidimlopdgcklaa.P Go.Proofs.YtidimlopdgcklaaW.PrintWords
def FnExactRuneCount_Pure : Prop := ∀ (a0 : ByteArray), (a0.size ≤ 140737488351232) → ∃ k, laws_FnExactRuneCount.f k a0 = some true
end Go.Proofs.Ytidimlopdgcklaa.Pure
