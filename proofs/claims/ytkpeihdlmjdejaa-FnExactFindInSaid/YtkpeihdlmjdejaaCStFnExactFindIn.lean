/- The pure statement of the law FnExactFindIn. By a program of this session. -/
import Derived.Test.YtkpeihdlmjdejaaCP0
import Derived.Test.YtkpeihdlmjdejaaC5
namespace Go.Proofs.Ytkpeihdlmjdejaa.Pure
open Go.RowKit Go.Proofs.Ytkpeihdlmjdejaa.P Go.Proofs.YtkpeihdlmjdejaaW.PrintWords
def FnExactFindIn_Pure : Prop := ∀ (l0 : List (S87)) (l1 : List Int), ((l0.length * 32 ≤ 140737488351232 ∧ ∀ x3_ ∈ l0, ((Lit.int .i64 x3_.f0).wf = true) ∧ ((x3_.f1.length * 8 ≤ 140737488351232 ∧ ∀ x4_ ∈ x3_.f1, (Lit.int .i64 x4_).wf = true)))) → ((l1.length * 8 ≤ 140737488351232 ∧ ∀ x5_ ∈ l1, (Lit.int .i64 x5_).wf = true)) → ∃ k, laws_FnExactFindIn.f k l0 l1 = some true
end Go.Proofs.Ytkpeihdlmjdejaa.Pure
