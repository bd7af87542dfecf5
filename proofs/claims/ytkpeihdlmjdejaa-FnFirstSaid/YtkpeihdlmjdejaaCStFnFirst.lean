/- The pure statement of the law FnFirst. By a program of this session. -/
import Derived.Test.YtkpeihdlmjdejaaCP0
import Derived.Test.YtkpeihdlmjdejaaC6
namespace Go.Proofs.Ytkpeihdlmjdejaa.Pure
open Go.RowKit Go.Proofs.Ytkpeihdlmjdejaa.P Go.Proofs.YtkpeihdlmjdejaaW.PrintWords
def FnFirst_Pure : Prop := ∀ (l0 : List Int) (l1 : List Int), ((l0.length * 1 ≤ 140737488351232 ∧ ∀ x27_ ∈ l0, (Lit.int .u8 x27_).wf = true)) → ((l1.length * 1 ≤ 140737488351232 ∧ ∀ x28_ ∈ l1, (Lit.int .u8 x28_).wf = true)) → ∃ k, laws_FnFirst.f k l0 l1 = some true
end Go.Proofs.Ytkpeihdlmjdejaa.Pure
