/- The pure statement of the law FnExactGoodBuf. By a program of this session. -/
import Derived.Test.YtidimlopdgcklaaP8
namespace Go.Proofs.Ytidimlopdgcklaa.Pure
open Go.RowKit Go.Proofs.Ytidimlopdgcklaa.P Go.Proofs.YtidimlopdgcklaaW.PrintWords
def FnExactGoodBuf_Pure : Prop := ∀ (a0_0 : Int) (l0_1 : List Int) (l0_2 : List Int) (a0_3 : Int), ((Lit.int .i64 a0_0).wf = true) → ((l0_1.length * 8 ≤ 140737488351232 ∧ ∀ x7_ ∈ l0_1, (Lit.int .i64 x7_).wf = true)) → ((l0_2.length * 8 ≤ 140737488351232 ∧ ∀ x8_ ∈ l0_2, (Lit.int .i64 x8_).wf = true)) → ((Lit.int .i64 a0_3).wf = true) → ∃ k, laws_FnExactGoodBuf.f k a0_0 l0_1 l0_2 a0_3 = some true
end Go.Proofs.Ytidimlopdgcklaa.Pure
