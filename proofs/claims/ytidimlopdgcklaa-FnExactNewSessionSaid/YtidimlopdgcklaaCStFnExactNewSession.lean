/- The pure statement of the law FnExactNewSession. By a program of this session. -/
import Derived.Test.YtidimlopdgcklaaP0
import Derived.Test.YtidimlopdgcklaaC4
namespace Go.Proofs.Ytidimlopdgcklaa.Pure
open Go.RowKit Go.Proofs.Ytidimlopdgcklaa.P Go.Proofs.YtidimlopdgcklaaW.PrintWords
def FnExactNewSession_Pure : Prop := ∀ (a0 : Int) (a1 : Int), ((Lit.int .i64 a0).wf = true) → ((Lit.int .i64 a1).wf = true) → ∃ k, laws_FnExactNewSession.f k a0 a1 = some true
end Go.Proofs.Ytidimlopdgcklaa.Pure
