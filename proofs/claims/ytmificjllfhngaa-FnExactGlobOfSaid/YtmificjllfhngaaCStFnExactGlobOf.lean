/- The pure statement of the law FnExactGlobOf. By a program of this session. -/
import Derived.Test.YtmificjllfhngaaCP0
import Derived.Test.YtmificjllfhngaaC1
namespace Go.Proofs.Ytmificjllfhngaa.Pure
open Go.RowKit Go.Proofs.Ytmificjllfhngaa.P Go.Proofs.YtmificjllfhngaaW.PrintWords
def FnExactGlobOf_Pure : Prop := ∀ (l0 : List Int), ((l0.length * 8 ≤ 140737488351232 ∧ ∀ x1_ ∈ l0, (Lit.int .i64 x1_).wf = true)) → ∃ k, laws_FnExactGlobOf.f k l0 = some true
end Go.Proofs.Ytmificjllfhngaa.Pure
