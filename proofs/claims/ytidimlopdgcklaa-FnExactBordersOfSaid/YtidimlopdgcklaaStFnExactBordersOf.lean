/- The pure statement of the law FnExactBordersOf. By a program of this session. -/
import Derived.Test.YtidimlopdgcklaaP25
namespace Go.Proofs.Ytidimlopdgcklaa.Pure
open Go.RowKit Go.Proofs.Ytidimlopdgcklaa.P Go.Proofs.YtidimlopdgcklaaW.PrintWords
def FnExactBordersOf_Pure : Prop := ∀ (l0 : List Int), ((l0.length * 8 ≤ 140737488351232 ∧ ∀ x9_ ∈ l0, (Lit.int .i64 x9_).wf = true)) → ∃ k, laws_FnExactBordersOf.f k l0 = some true
end Go.Proofs.Ytidimlopdgcklaa.Pure
