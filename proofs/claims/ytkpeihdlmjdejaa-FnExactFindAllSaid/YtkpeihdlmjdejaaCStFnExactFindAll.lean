/- The pure statement of the law FnExactFindAll. By a program of this session. -/
import Derived.Test.YtkpeihdlmjdejaaCP0
import Derived.Test.YtkpeihdlmjdejaaC6
namespace Go.Proofs.Ytkpeihdlmjdejaa.Pure
open Go.RowKit Go.Proofs.Ytkpeihdlmjdejaa.P Go.Proofs.YtkpeihdlmjdejaaW.PrintWords
def FnExactFindAll_Pure : Prop := ∀ (l0 : List (S87)) (l1 : List Int), ((l0.length * 32 ≤ 140737488351232 ∧ ∀ x24_ ∈ l0, ((Lit.int .i64 x24_.f0).wf = true) ∧ ((x24_.f1.length * 8 ≤ 140737488351232 ∧ ∀ x25_ ∈ x24_.f1, (Lit.int .i64 x25_).wf = true)))) → ((l1.length * 8 ≤ 140737488351232 ∧ ∀ x26_ ∈ l1, (Lit.int .i64 x26_).wf = true)) → ∃ k, laws_FnExactFindAll.f k l0 l1 = some true
end Go.Proofs.Ytkpeihdlmjdejaa.Pure
