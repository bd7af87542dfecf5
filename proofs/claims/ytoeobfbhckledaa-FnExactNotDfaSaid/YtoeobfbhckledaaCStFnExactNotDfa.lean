/- The pure statement of the law FnExactNotDfa. By a program of this session. -/
import Derived.Test.YtoeobfbhckledaaCP0
import Derived.Test.YtoeobfbhckledaaC3
namespace Go.Proofs.Ytoeobfbhckledaa.Pure
open Go.RowKit Go.Proofs.Ytoeobfbhckledaa.P Go.Proofs.YtoeobfbhckledaaW.PrintWords
def FnExactNotDfa_Pure : Prop := ∀ (l0_0 : List Int) (l0_1 : List (List Int)) (l0_2 : List Bool), ((l0_0.length * 8 ≤ 140737488351232 ∧ ∀ x9_ ∈ l0_0, (Lit.int .i64 x9_).wf = true)) → ((l0_1.length * 24 ≤ 140737488351232 ∧ ∀ x10_ ∈ l0_1, (x10_.length * 8 ≤ 140737488351232 ∧ ∀ x11_ ∈ x10_, (Lit.int .i64 x11_).wf = true))) → ((l0_2.length * 1 ≤ 140737488351232 ∧ ∀ x12_ ∈ l0_2, True)) → ∃ k, laws_FnExactNotDfa.f k l0_0 l0_1 l0_2 = some true
end Go.Proofs.Ytoeobfbhckledaa.Pure
