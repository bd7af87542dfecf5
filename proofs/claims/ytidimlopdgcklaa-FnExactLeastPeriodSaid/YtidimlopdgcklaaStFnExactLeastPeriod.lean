/- The pure statement of the law FnExactLeastPeriod. By a program of this session. -/
import Derived.Test.YtidimlopdgcklaaP15
namespace Go.Proofs.Ytidimlopdgcklaa.Pure
open Go.RowKit Go.Proofs.Ytidimlopdgcklaa.P Go.Proofs.YtidimlopdgcklaaW.PrintWords
def FnExactLeastPeriod_Pure : Prop := ∀ (l0 : List Int), ((l0.length * 8 ≤ 140737488351232 ∧ ∀ x2_ ∈ l0, (Lit.int .i64 x2_).wf = true)) → ∃ k, laws_FnExactLeastPeriod.f k l0 = some true
end Go.Proofs.Ytidimlopdgcklaa.Pure
