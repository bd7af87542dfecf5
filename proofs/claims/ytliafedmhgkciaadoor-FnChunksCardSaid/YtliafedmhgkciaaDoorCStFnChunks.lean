/- The pure statement of the law FnChunks. By a program of this session. -/
import Derived.Test.YtliafedmhgkciaaDoorCP0
import Derived.Test.YtliafedmhgkciaaDoorC6
namespace Go.Proofs.YtliafedmhgkciaaDoor.Pure
open Go.RowKit Go.Proofs.YtliafedmhgkciaaDoor.P Go.Proofs.YtliafedmhgkciaaDoorW.PrintWords
def FnChunks_Pure : Prop := ∀ (l0 : List Int) (l1 : List Int), ((l0.length * 1 ≤ 140737488351232 ∧ ∀ x1_ ∈ l0, (Lit.int .u8 x1_).wf = true)) → ((l1.length * 1 ≤ 140737488351232 ∧ ∀ x2_ ∈ l1, (Lit.int .u8 x2_).wf = true)) → ∃ k, laws_FnChunks.f k l0 l1 = some true
end Go.Proofs.YtliafedmhgkciaaDoor.Pure
