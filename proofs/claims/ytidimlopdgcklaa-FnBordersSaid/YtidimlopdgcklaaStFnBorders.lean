/- The pure statement of the law FnBorders. By a program of this session. -/
import Derived.Test.YtidimlopdgcklaaP31
namespace Go.Proofs.Ytidimlopdgcklaa.Pure
open Go.RowKit Go.Proofs.Ytidimlopdgcklaa.P Go.Proofs.YtidimlopdgcklaaW.PrintWords
def FnBorders_Pure : Prop := ∀ (l0 : List Int) (l1 : List Int), ((l0.length * 1 ≤ 140737488351232 ∧ ∀ x33_ ∈ l0, (Lit.int .u8 x33_).wf = true)) → ((l1.length * 1 ≤ 140737488351232 ∧ ∀ x34_ ∈ l1, (Lit.int .u8 x34_).wf = true)) → ∃ k, laws_FnBorders.f k l0 l1 = some true
end Go.Proofs.Ytidimlopdgcklaa.Pure
