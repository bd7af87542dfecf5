/- The pure statement of the law FnExactByteOf. By a program of this session. -/
import Derived.Test.YtidimlopdgcklaaP21
namespace Go.Proofs.Ytidimlopdgcklaa.Pure
open Go.RowKit Go.Proofs.Ytidimlopdgcklaa.P Go.Proofs.YtidimlopdgcklaaW.PrintWords
def FnExactByteOf_Pure : Prop := ∀ (a0_0 : Int) (l0_1 : List Int) (l0_2 : List Int) (a0_3 : Int) (a1 : Int), ((Lit.int .i64 a0_0).wf = true) → ((l0_1.length * 8 ≤ 140737488351232 ∧ ∀ x16_ ∈ l0_1, (Lit.int .i64 x16_).wf = true)) → ((l0_2.length * 8 ≤ 140737488351232 ∧ ∀ x17_ ∈ l0_2, (Lit.int .i64 x17_).wf = true)) → ((Lit.int .i64 a0_3).wf = true) → ((Lit.int .i64 a1).wf = true) → ∃ k, laws_FnExactByteOf.f k a0_0 l0_1 l0_2 a0_3 a1 = some true
end Go.Proofs.Ytidimlopdgcklaa.Pure
