/- The pure statement of the law FnExactFirstOf. By a program of this session. -/
import Derived.Test.YtkpeihdlmjdejaaCP0
import Derived.Test.YtkpeihdlmjdejaaC6
namespace Go.Proofs.Ytkpeihdlmjdejaa.Pure
open Go.RowKit Go.Proofs.Ytkpeihdlmjdejaa.P Go.Proofs.YtkpeihdlmjdejaaW.PrintWords
def FnExactFirstOf_Pure : Prop := ∀ (l0 : List (List (S87))) (l1 : List Int), ((l0.length * 24 ≤ 140737488351232 ∧ ∀ x18_ ∈ l0, (x18_.length * 32 ≤ 140737488351232 ∧ ∀ x19_ ∈ x18_, ((Lit.int .i64 x19_.f0).wf = true) ∧ ((x19_.f1.length * 8 ≤ 140737488351232 ∧ ∀ x20_ ∈ x19_.f1, (Lit.int .i64 x20_).wf = true))))) → ((l1.length * 8 ≤ 140737488351232 ∧ ∀ x21_ ∈ l1, (Lit.int .i64 x21_).wf = true)) → ∃ k, laws_FnExactFirstOf.f k l0 l1 = some true
end Go.Proofs.Ytkpeihdlmjdejaa.Pure
