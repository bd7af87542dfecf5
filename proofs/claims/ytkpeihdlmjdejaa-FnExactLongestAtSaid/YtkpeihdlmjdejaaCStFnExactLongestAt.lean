/- The pure statement of the law FnExactLongestAt. By a program of this session. -/
import Derived.Test.YtkpeihdlmjdejaaCP0
import Derived.Test.YtkpeihdlmjdejaaC5
namespace Go.Proofs.Ytkpeihdlmjdejaa.Pure
open Go.RowKit Go.Proofs.Ytkpeihdlmjdejaa.P Go.Proofs.YtkpeihdlmjdejaaW.PrintWords
def FnExactLongestAt_Pure : Prop := ∀ (l0 : List (S87)) (l1 : List Int) (a2 : Int), ((l0.length * 32 ≤ 140737488351232 ∧ ∀ x8_ ∈ l0, ((Lit.int .i64 x8_.f0).wf = true) ∧ ((x8_.f1.length * 8 ≤ 140737488351232 ∧ ∀ x9_ ∈ x8_.f1, (Lit.int .i64 x9_).wf = true)))) → ((l1.length * 8 ≤ 140737488351232 ∧ ∀ x10_ ∈ l1, (Lit.int .i64 x10_).wf = true)) → ((Lit.int .i64 a2).wf = true) → ∃ k, laws_FnExactLongestAt.f k l0 l1 a2 = some true
end Go.Proofs.Ytkpeihdlmjdejaa.Pure
