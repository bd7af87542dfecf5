/- The pure statement of the law FnExactPlacesOf. By a program of this session. -/
import Derived.Test.YtidimlopdgcklaaP23
namespace Go.Proofs.Ytidimlopdgcklaa.Pure
open Go.RowKit Go.Proofs.Ytidimlopdgcklaa.P Go.Proofs.YtidimlopdgcklaaW.PrintWords
def FnExactPlacesOf_Pure : Prop := ∀ (l0 : List Int) (l1 : List Int), ((l0.length * 8 ≤ 140737488351232 ∧ ∀ x7_ ∈ l0, (Lit.int .i64 x7_).wf = true)) → ((l1.length * 8 ≤ 140737488351232 ∧ ∀ x8_ ∈ l1, (Lit.int .i64 x8_).wf = true)) → ∃ k, laws_FnExactPlacesOf.f k l0 l1 = some true
end Go.Proofs.Ytidimlopdgcklaa.Pure
