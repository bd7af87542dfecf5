/- The pure statement of the law FnExactStepAho. By a program of this session. -/
import Derived.Test.YtidimlopdgcklaaCP0
import Derived.Test.YtidimlopdgcklaaC4
namespace Go.Proofs.Ytidimlopdgcklaa.Pure
open Go.RowKit Go.Proofs.Ytidimlopdgcklaa.P Go.Proofs.YtidimlopdgcklaaW.PrintWords
def FnExactStepAho_Pure : Prop := ∀ (l0_0 : List Int) (l0_1 : List Int) (l0_2 : List Int) (l0_3 : List (List Int)) (a1 : Int) (a2 : Int), ((l0_0.length * 8 ≤ 140737488351232 ∧ ∀ x45_ ∈ l0_0, (Lit.int .i64 x45_).wf = true)) → ((l0_1.length * 8 ≤ 140737488351232 ∧ ∀ x46_ ∈ l0_1, (Lit.int .i64 x46_).wf = true)) → ((l0_2.length * 8 ≤ 140737488351232 ∧ ∀ x47_ ∈ l0_2, (Lit.int .i64 x47_).wf = true)) → ((l0_3.length * 24 ≤ 140737488351232 ∧ ∀ x48_ ∈ l0_3, (x48_.length * 8 ≤ 140737488351232 ∧ ∀ x49_ ∈ x48_, (Lit.int .i64 x49_).wf = true))) → ((Lit.int .i64 a1).wf = true) → ((Lit.int .i64 a2).wf = true) → ∃ k, laws_FnExactStepAho.f k l0_0 l0_1 l0_2 l0_3 a1 a2 = some true
end Go.Proofs.Ytidimlopdgcklaa.Pure
