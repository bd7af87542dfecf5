/- The pure statement of the law FnExactGoodAho. By a program of this session. -/
import Derived.Test.YtidimlopdgcklaaCP0
import Derived.Test.YtidimlopdgcklaaC3
namespace Go.Proofs.Ytidimlopdgcklaa.Pure
open Go.RowKit Go.Proofs.Ytidimlopdgcklaa.P Go.Proofs.YtidimlopdgcklaaW.PrintWords
def FnExactGoodAho_Pure : Prop := ∀ (l0_0 : List Int) (l0_1 : List Int) (l0_2 : List Int) (l0_3 : List (List Int)), ((l0_0.length * 8 ≤ 140737488351232 ∧ ∀ x28_ ∈ l0_0, (Lit.int .i64 x28_).wf = true)) → ((l0_1.length * 8 ≤ 140737488351232 ∧ ∀ x29_ ∈ l0_1, (Lit.int .i64 x29_).wf = true)) → ((l0_2.length * 8 ≤ 140737488351232 ∧ ∀ x30_ ∈ l0_2, (Lit.int .i64 x30_).wf = true)) → ((l0_3.length * 24 ≤ 140737488351232 ∧ ∀ x31_ ∈ l0_3, (x31_.length * 8 ≤ 140737488351232 ∧ ∀ x32_ ∈ x31_, (Lit.int .i64 x32_).wf = true))) → ∃ k, laws_FnExactGoodAho.f k l0_0 l0_1 l0_2 l0_3 = some true
end Go.Proofs.Ytidimlopdgcklaa.Pure
