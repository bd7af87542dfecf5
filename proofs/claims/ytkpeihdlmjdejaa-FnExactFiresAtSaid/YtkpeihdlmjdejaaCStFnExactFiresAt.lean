/- The pure statement of the law FnExactFiresAt. By a program of this session. -/
import Derived.Test.YtkpeihdlmjdejaaCP0
import Derived.Test.YtkpeihdlmjdejaaC6
namespace Go.Proofs.Ytkpeihdlmjdejaa.Pure
open Go.RowKit Go.Proofs.Ytkpeihdlmjdejaa.P Go.Proofs.YtkpeihdlmjdejaaW.PrintWords
def FnExactFiresAt_Pure : Prop := ∀ (l0 : List (S87)) (l1 : List Int), ((l0.length * 32 ≤ 140737488351232 ∧ ∀ x13_ ∈ l0, ((Lit.int .i64 x13_.f0).wf = true) ∧ ((x13_.f1.length * 8 ≤ 140737488351232 ∧ ∀ x14_ ∈ x13_.f1, (Lit.int .i64 x14_).wf = true)))) → ((l1.length * 8 ≤ 140737488351232 ∧ ∀ x15_ ∈ l1, (Lit.int .i64 x15_).wf = true)) → ∃ k, laws_FnExactFiresAt.f k l0 l1 = some true
end Go.Proofs.Ytkpeihdlmjdejaa.Pure
