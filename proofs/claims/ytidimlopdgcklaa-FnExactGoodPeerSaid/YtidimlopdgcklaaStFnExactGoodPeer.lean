/- The pure statement of the law FnExactGoodPeer. By a program of this session. -/
import Derived.Test.YtidimlopdgcklaaP5
namespace Go.Proofs.Ytidimlopdgcklaa.Pure
open Go.RowKit Go.Proofs.Ytidimlopdgcklaa.P Go.Proofs.YtidimlopdgcklaaW.PrintWords
def FnExactGoodPeer_Pure : Prop := ∀ (l0 : List (S79)), ((l0.length * 32 ≤ 140737488351232 ∧ ∀ x1_ ∈ l0, ((Lit.int .i64 x1_.f0).wf = true) ∧ (x1_.f1.size ≤ 140737488351232) ∧ (True))) → ∃ k, laws_FnExactGoodPeer.f k l0 = some true
end Go.Proofs.Ytidimlopdgcklaa.Pure
