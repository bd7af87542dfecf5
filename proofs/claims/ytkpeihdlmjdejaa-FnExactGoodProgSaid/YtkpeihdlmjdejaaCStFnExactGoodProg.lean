/- The pure statement of the law FnExactGoodProg. By a program of this session. -/
import Derived.Test.YtkpeihdlmjdejaaCP0
import Derived.Test.YtkpeihdlmjdejaaC7
namespace Go.Proofs.Ytkpeihdlmjdejaa.Pure
open Go.RowKit Go.Proofs.Ytkpeihdlmjdejaa.P Go.Proofs.YtkpeihdlmjdejaaW.PrintWords
def FnExactGoodProg_Pure : Prop := ∀ (l0 : List (S112)), ((l0.length * 104 ≤ 140737488351232 ∧ ∀ x45_ ∈ l0, ((Lit.int .i64 x45_.f0).wf = true) ∧ ((Lit.int .i64 x45_.f1).wf = true) ∧ ((Lit.int .i64 x45_.f2).wf = true) ∧ ((Lit.int .i64 x45_.f3).wf = true) ∧ ((x45_.f4.length * 8 ≤ 140737488351232 ∧ ∀ x46_ ∈ x45_.f4, (Lit.int .i64 x46_).wf = true)) ∧ ((x45_.f5.length * 32 ≤ 140737488351232 ∧ ∀ x47_ ∈ x45_.f5, ((Lit.int .i64 x47_.f0).wf = true) ∧ ((x47_.f1.length * 32 ≤ 140737488351232 ∧ ∀ x48_ ∈ x47_.f1, ((Lit.int .i64 x48_.f0).wf = true) ∧ ((x48_.f1.length * 8 ≤ 140737488351232 ∧ ∀ x49_ ∈ x48_.f1, (Lit.int .i64 x49_).wf = true)))))) ∧ ((x45_.f6.length * 8 ≤ 140737488351232 ∧ ∀ x50_ ∈ x45_.f6, (Lit.int .i64 x50_).wf = true)))) → ∃ k, laws_FnExactGoodProg.f k l0 = some true
end Go.Proofs.Ytkpeihdlmjdejaa.Pure
