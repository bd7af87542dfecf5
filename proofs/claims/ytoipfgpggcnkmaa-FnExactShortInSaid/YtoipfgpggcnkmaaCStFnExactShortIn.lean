/- The pure statement of the law FnExactShortIn. By a program of this session. -/
import Derived.Test.YtoipfgpggcnkmaaCP0
import Derived.Test.YtoipfgpggcnkmaaC3
namespace Go.Proofs.Ytoipfgpggcnkmaa.Pure
open Go.RowKit Go.Proofs.Ytoipfgpggcnkmaa.P Go.Proofs.YtoipfgpggcnkmaaW.PrintWords
def FnExactShortIn_Pure : Prop := ∀ (l0_0 : List Int) (l0_1 : List (List Int)) (l0_2 : List Bool), ((l0_0.length * 8 ≤ 140737488351232 ∧ ∀ x25_ ∈ l0_0, (Lit.int .i64 x25_).wf = true)) → ((l0_1.length * 24 ≤ 140737488351232 ∧ ∀ x26_ ∈ l0_1, (x26_.length * 8 ≤ 140737488351232 ∧ ∀ x27_ ∈ x26_, (Lit.int .i64 x27_).wf = true))) → ((l0_2.length * 1 ≤ 140737488351232 ∧ ∀ x28_ ∈ l0_2, True)) → ∃ k, laws_FnExactShortIn.f k l0_0 l0_1 l0_2 = some true
end Go.Proofs.Ytoipfgpggcnkmaa.Pure
